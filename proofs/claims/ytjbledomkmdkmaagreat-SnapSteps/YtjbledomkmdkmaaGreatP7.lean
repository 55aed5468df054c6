/-
 The executor is sound.
-/
import Derived.LoopNIn
import Derived.RangeFuncRecord
import Derived.LoopN
import Derived.Test.YtjbledomkmdkmaaGreatP6
set_option linter.unusedSimpArgs false
set_option linter.unusedVariables false
set_option linter.unusedSectionVars false
namespace Go.AX
open Go
variable {ρ:Type} {P:Program} [A9]
theorem gF {regs:AZ} {r:Ax}:∀ {os:List (Nat × Kd)} {K:List Value→Option Ax},pg regs os K=some r → ∃ vs,vs.length=os.length∧(∀ (j:Nat) t k,os[j]?=some (t,k)→regs.getD t none=vs[j]?)∧K vs=some r
 | [],K,h=>⟨[],rfl,by simp,h⟩
 | (t,k)::os,K,h=>by
   simp only[pg,Option.bind_eq_some_iff] at h
   obtain ⟨v,hv,h⟩:=h
   obtain ⟨vs,h1,h2,h3⟩:=gF h
   refine ⟨v::vs,by simp[h1], ?_,h3⟩
   intro j t' k' hj
   cases j with
   | zero=>simp at hj; obtain ⟨rfl,rfl⟩:=hj; simpa using hv
   | succ j=>simpa using h2 j t' k' (by simpa using hj)
theorem df:∀ {os:List (Nat × Kd)} {vs:List Value} {regs:AZ},(kN os vs regs).length=regs.length ∧
  ∀ (t:Nat) (v:Value),(kN os vs regs).getD t none=some v→(∃ (j:Nat) (k:Kd),os[j]?=some (t,k)∧vs[j]?=some v)∨regs.getD t none=some v
 | [],vs,regs=>⟨by cases vs <;> rfl,fun t v h=>.inr (by cases vs <;> exact h)⟩
 | (t0,k0)::os,[],regs=>⟨rfl,fun t v h=>.inr h⟩
 | (t0,k0)::os,v0::vs,regs=>by
   obtain ⟨h1,h2⟩:=df (os:=os) (vs:=vs) (regs:=regs.set t0 (some v0))
   refine ⟨by simp only[kN]; rw[h1]; simp,fun t v h=>?_⟩
   simp only[kN] at h
   rcases h2 t v h with ⟨j,k,hj1,hj2⟩ | h
   ·exact .inl ⟨j+1,k,by simpa using hj1,by simpa using hj2⟩
   ·rw[Lr] at h
    split at h
    ·rename_i hc
     cases h
     exact .inl ⟨0,k0,by rw[hc.1]; rfl,rfl⟩
    ·exact .inr h
theorem ko:∀ {ts:List Nat} {regs:AZ},(forget.go ts regs).length=regs.length ∧ ∀ (t:Nat) (v:Value),(forget.go ts regs).getD t none=some v→t ∉ ts∧regs.getD t none=some v
 | [],regs=>⟨rfl,fun t v h=>⟨by simp,h⟩⟩
 | t0::ts,regs=>by
   obtain ⟨h1,h2⟩:=ko (ts:=ts) (regs:=regs.set t0 none)
   refine ⟨by simp only[forget.go]; rw[h1]; simp,fun t v h=>?_⟩
   obtain ⟨g1,g2⟩:=h2 t v h
   rw[Lr] at g2
   split at g2
   ·cases g2
   ·rename_i hc
    refine ⟨?_,g2⟩
    rw[List.mem_cons]
    rintro (rfl | h')
    ·have:t<regs.length:=by
      rcases Nat.lt_or_ge t regs.length with h | h
      ·exact h
      ·rw[List.getD_eq_getElem?_getD,List.getElem?_eq_none h] at g2; cases g2
     exact hc ⟨rfl,this⟩
    ·exact g1 h'
theorem dt {x:Dh} {K:Dh→List (Nat × Kd)→Option ρ} {r:ρ}:∀ {es:List (Dh × List (Nat × Kd))},hO x K es=some r → ∃ outs,tO x es=some outs∧K x outs=some r
 | [],h=>by cases h
 | e::es,h=>by
   simp only[hO] at h
   simp only[tO]
   split at h
   ·rename_i hx
    rw[if_pos hx]
    rw[hx]
    exact ⟨e.2,rfl,h⟩
   ·rename_i hx
    rw[if_neg hx]
    exact dt h
theorem PW {h:Hint} {c:Code} {regs regs':AZ} {x:Dh} {σ':Aa} {r1:Ax} {K:Dh→AZ→Aa→Option ρ} {r:ρ} (hp:pack h.exits x regs' σ'=some r1) (hu:unpack h c regs r1 K=some r):
  ∃ regs2,K x regs2 σ'=some r∧regs2.length=regs.length ∧ ∀ (t:Nat) (v:Value),regs2.getD t none=some v→regs'.getD t none=some v∨(t ∉ Wx c∧regs.getD t none=some v):=by
 unfold pack at hp
 simp only[Option.bind_eq_some_iff] at hp
 obtain ⟨outs,ho,hp⟩:=hp
 obtain ⟨vs,hl,hv,hk⟩:=gF hp
 cases hk
 unfold unpack at hu
 obtain ⟨outs',ho',hu⟩:=dt hu
 simp only at ho'
 rw[ho] at ho'; cases ho'
 obtain ⟨h1,h2⟩:=jR hu
 simp only at h2
 rw[List.length_map,← hl,List.take_length] at h2
 refine ⟨_,h2, ?_,fun t v hv'=>?_⟩
 ·rw[df.1]; exact ko.1
 ·rcases df.2 t v hv' with ⟨j,k,g1,g2⟩ | g
  ·left; rw[hv j t k g1]; exact g2
  ·right; exact ko.2 t v g
theorem X4 {live:List Nat}:∀ {regs:AZ} {i:Nat},(VM live i regs).length=regs.length ∧ ∀ (t:Nat) (v:Value),(VM live i regs).getD t none=some v→regs.getD t none=some v
 | [],i=>⟨rfl,fun t v h=>h⟩
 | r::rs,i=>by
   obtain ⟨h1,h2⟩:=X4 (live:=live) (regs:=rs) (i:=i+1)
   refine ⟨by simp[VM,h1],fun t v h=>?_⟩
   cases t with
   | zero=>
     simp only[VM,List.getD_cons_zero] at h ⊢
     split at h
     ·exact h
     ·cases h
   | succ t=>
     simp only[VM,List.getD_cons_succ] at h ⊢
     exact h2 t v h
theorem cG (live:List Nat) (regs:AZ):Nx regs (ZB live regs):=fun t v h=>X4.2 t v h
theorem X5 (live:List Nat) (regs:AZ):(ZB live regs).length=regs.length:=X4.1
inductive hY:Dh→Exit→Prop
 | normal:hY .normal .normal
 | exit (id:Nat):hY (.exit id) (.exit id)
 | ret:hY .ret .ret
def W2 (lo:Nat) (μ:Mu) (w:World) (ds:List Deferred):Prop:=
 (∀ d ∈ ds,∃ b,d={ target:=.collected b,args:=#[] }∧lo≤b∧b<w.heap.size∧w.heap[b]?=some (.deferred (some [])) ∧ ∀ h k,μ h=some k→k.b≠b)∧ds.Nodup
theorem W2.nil (lo:Nat) (μ:Mu) (w:World):W2 lo μ w []:=⟨fun d hd=>by simp at hd,List.nodup_nil⟩
theorem W2.step {lo:Nat} {μ μ':Mu} {σ σ':Aa} {w w':World} {ds:List Deferred} (h:W2 lo μ w ds) (s:Step μ σ w μ' σ' w'):W2 lo μ' w' ds:=by
 refine ⟨fun d hd=>?_,h.2⟩
 obtain ⟨b,hb,h1,h2,h3,h4⟩:=h.1 d hd
 refine ⟨b,hb,h1,Nat.lt_of_lt_of_le h2 s.size, ?_,fun i k hk=>?_⟩
 ·rw[s.frame b h2 fun i k _ hk he=>absurd he (h4 i k hk)]; exact h3
 ·by_cases hi:i<σ.length∨σ'.length≤i
  ·rw[s.mu i hi] at hk; exact h4 i k hk
  ·rcases s.new i k (by omega) (by omega) hk with hn | ⟨h0,k0,_,hk0,he,_⟩
   ·omega
   ·rw[← he]; exact h4 h0 k0 hk0
def qo (x:Array Tmp × Code × Code):Code→Prop
 | .seq a b=>qo x a∧qo x b
 | .cond _ a b=>qo x a∧qo x b
 | .block _ c=>qo x c
 | .loop c=>qo x c
 | .scope c=>qo x c
 | .rangeFunc _ ps a b=>(ps,a,b)=x
 | _=>True
theorem US {x:Array Tmp × Code × Code}:∀ {c:Code},CH c=none→qo x c:=by
 intro c
 induction c with
 | seq a b iha ihb=>
   intro h
   simp only[CH] at h
   split at h
   ·cases h
   ·rename_i h1; exact ⟨iha h1,ihb h⟩
 | cond _ a b iha ihb=>
   intro h
   simp only[CH] at h
   split at h
   ·cases h
   ·rename_i h1; exact ⟨iha h1,ihb h⟩
 | block _ c ih=>intro h; exact ih h
 | loop c ih=>intro h; exact ih h
 | scope c ih=>intro h; exact ih h
 | rangeFunc=>intro h; cases h
 | _=>intro _; trivial
theorem Tg:∀ {c:Code},ranges c=0→CH c=none:=by
 intro c
 induction c with
 | seq a b iha ihb=>
   intro h
   simp only[ranges] at h
   simp only[CH,iha (by omega),ihb (by omega)]
 | cond _ a b iha ihb=>
   intro h
   simp only[ranges] at h
   simp only[CH,iha (by omega),ihb (by omega)]
 | block _ c ih=>intro h; exact ih h
 | loop c ih=>intro h; exact ih h
 | scope c ih=>intro h; exact ih h
 | rangeFunc=>intro h; simp[ranges] at h
 | _=>intro _; rfl
theorem vU:∀ {c:Code},CH c=none→ranges c=0:=by
 intro c
 induction c with
 | seq a b iha ihb=>
   intro h
   simp only[CH] at h
   split at h
   ·cases h
   ·rename_i h1; simp only[ranges,iha h1,ihb h]
 | cond _ a b iha ihb=>
   intro h
   simp only[CH] at h
   split at h
   ·cases h
   ·rename_i h1; simp only[ranges,iha h1,ihb h]
 | block _ c ih=>intro h; exact ih h
 | loop c ih=>intro h; exact ih h
 | scope c ih=>intro h; exact ih h
 | rangeFunc=>intro h; cases h
 | _=>intro _; rfl
theorem Ae0 {x:Array Tmp × Code × Code}:∀ {c:Code},ranges c≤1→CH c=some x→qo x c:=by
 intro c
 induction c with
 | seq a b iha ihb=>
   intro h g
   simp only[ranges] at h
   simp only[CH] at g
   split at g
   ·rename_i y h1
    cases g
    have:ranges a≠0:=fun h0=>by rw[Tg h0] at h1; cases h1
    exact ⟨iha (by omega) h1,US (Tg (by omega))⟩
   ·rename_i h1; exact ⟨US h1,ihb (by omega) g⟩
 | cond _ a b iha ihb=>
   intro h g
   simp only[ranges] at h
   simp only[CH] at g
   split at g
   ·rename_i y h1
    cases g
    have:ranges a≠0:=fun h0=>by rw[Tg h0] at h1; cases h1
    exact ⟨iha (by omega) h1,US (Tg (by omega))⟩
   ·rename_i h1; exact ⟨US h1,ihb (by omega) g⟩
 | block _ c ih=>intro h g; exact ih h g
 | loop c ih=>intro h g; exact ih h g
 | scope c ih=>intro h g; exact ih h g
 | rangeFunc=>intro h g; simp only[CH,Option.some.injEq] at g; exact g
 | _=>intro _ g; cases g
theorem wH {x:Array Tmp × Code × Code}:∀ {c:Code},CH c=some x→ranges x.2.1+ranges x.2.2+1≤ranges c:=by
 intro c
 induction c with
 | seq a b iha ihb=>
   intro g
   simp only[CH] at g
   simp only[ranges]
   split at g
   ·rename_i y h1; cases g; have:=iha h1; omega
   ·have:=ihb g; omega
 | cond _ a b iha ihb=>
   intro g
   simp only[CH] at g
   simp only[ranges]
   split at g
   ·rename_i y h1; cases g; have:=iha h1; omega
   ·have:=ihb g; omega
 | block _ c ih=>intro g; exact ih g
 | loop c ih=>intro g; exact ih g
 | scope c ih=>intro g; exact ih g
 | rangeFunc=>intro g; simp only[CH,Option.some.injEq] at g; subst g; exact Nat.le_refl _
 | _=>intro g; cases g
def Rg (P:Program) (ro:Option Nat) (fid:FuncId) (c:Code):Prop:=
 ∃ x,qo x c∧(ranges c≠0→ro=none ∧ ∃ F cb,P.funcs[fid]?=some F∧F.body=some cb∧CH cb=some x)
theorem Rg.zero {ro:Option Nat} {fid:FuncId} {c:Code} (h:ranges c=0):Rg P ro fid c:=⟨default,US (Tg h),fun hn=>absurd h hn⟩
theorem Rg.seq {ro:Option Nat} {fid:FuncId} {a b:Code} (h:Rg P ro fid (.seq a b)):Rg P ro fid a∧Rg P ro fid b:=by
 obtain ⟨x,h1,h2⟩:=h
 exact ⟨⟨x,h1.1,fun hn=>h2 (by simp only[ranges]; omega)⟩,⟨x,h1.2,fun hn=>h2 (by simp only[ranges]; omega)⟩⟩
theorem Rg.cond {ro:Option Nat} {fid:FuncId} {c:Operand} {a b:Code} (h:Rg P ro fid (.cond c a b)):Rg P ro fid a∧Rg P ro fid b:=by
 obtain ⟨x,h1,h2⟩:=h
 exact ⟨⟨x,h1.1,fun hn=>h2 (by simp only[ranges]; omega)⟩,⟨x,h1.2,fun hn=>h2 (by simp only[ranges]; omega)⟩⟩
theorem R.extra {μ:Mu} {σ:Aa} {w:World} (h:R P μ σ w) (x:Obj):R P μ σ (w.alloc x):=
 ⟨fun i o k ho hk=>by rw[heap_alloc_old (h.lt i k hk)]; exact h.obj i o k ho hk,fun i k hk=>Nat.lt_of_lt_of_le (h.lt i k hk) (by simp),h.inj⟩
theorem Step.extra {μ:Mu} {σ:Aa} {w:World} (x:Obj):Step μ σ w μ σ (w.alloc x):=
 ⟨Nat.le_refl _,fun _ _=>rfl,fun _ _ h=>h,fun h k h1 h2=>absurd h2 (by omega),by simp,rfl,rfl,rfl,fun b hb _=>heap_alloc_old hb⟩
theorem qL {σ:Aa} {h:Nat} {f:FuncId} {st:LSt} {regs:AZ} (hs:σ[h]?=some (.loop f st regs)):Ay σ h:=by
 unfold Ay; rw[hs]; trivial
theorem R.record {μ:Mu} {σ:Aa} {w:World} (hR:R P μ σ w) {h:Nat} {k:kT} (hk:μ h=some k) {f:FuncId} {st:LSt} {regs:AZ} (hs:σ[h]?=some (.loop f st regs)) {o:A6} {x:Obj} (ho:qm P μ o k (some x)):
  R P μ (σ.set h o) (w.putObj k.b x)∧Step μ σ w μ (σ.set h o) (w.putObj k.b x):=by
 have hw:=qL hs
 have hlt:=hR.lt _ _ hk
 have hother:∀ b,b≠k.b→(w.putObj k.b x).heap[b]?=w.heap[b]?:=fun b hb=>World.putObj_heap_other hb
 refine ⟨hR.upd hk ⟨_,hs,by simp⟩ hw (by simp) hother (by rw[World.putObj_heap_same hlt]; exact ho),Step.upd hk (List.getElem?_eq_some_iff.1 hs).1 hw (by simp) rfl rfl rfl hother⟩
theorem qG {h:Nat} {σ:Aa} {K:Dh→Aa→Option ρ} {r:ρ} (hh:VD h σ K=some r):
  ∃ f st regs x,σ[h]?=some (.loop f st regs)∧K x (σ.set h .dead)=some r∧((st = .ready∧x = .normal)∨(st = .done x∧x ≠ .normal)):=by
 unfold VD at hh
 split at hh
 ·rename_i hs; exact ⟨_,_,_,_,hs,hh,.inl ⟨rfl,rfl⟩⟩
 ·rename_i f y regs hs
  split at hh
  ·cases hh
  ·rename_i hne
   exact ⟨_,_,_,_,hs,hh,.inr ⟨rfl,hne⟩⟩
 ·cases hh
theorem Aa3 {v:Value} (h:Aa2 v=true):∃ f a b,v = .func (.func f) a b:=by
 unfold Aa2 at h
 split at h
 ·exact ⟨_,_,_,rfl⟩
 ·cases h
abbrev Aew (w:World) (fn:FuncId) (tmps:Array Value) (ps:Array Tmp) (asg body:Code):World:=
 (w.alloc (.deferred (some []))).alloc (.loop { state:=.ready,pending:=none,fn,tmps,params:=ps,assign:=asg,body,defers:=w.heap.size })
theorem PV {b:Frame} {a:Act} {k:List Item} {cs:List Frame} {w:World} {c:Code}:step P (lone (b.atR a (.code (.scope c)::k)) cs w) = .next (lone (b.atR a (.code c :: .inScope c::k)) cs w):=
 step_lone_go (by simp[stepG,stepG.exec,Frame.atR])
theorem qS {b:Frame} {a:Act} {k:List Item} {cs:List Frame} {w:World} {c:Code}:step P (lone (b.atR a (.inScope c::k)) cs w) = .next (lone (b.atR a k) cs w):=
 step_lone_go (by simp[stepG,stepG.exec,Frame.atR])
theorem yw {F:Fence} {n:Nat} {c:Code} {Q:Exit→Act→World→Prop} {a:Act} {w:World} (h:c.wpIn F n P (fun e a w=>(∀ l,e ≠ .goto l)∧Q e a w) a w):(Code.scope c).wpIn F n P Q a w:=by
 intro b k cs hro hb hr
 have h0:(lone (b.atR a (.code (.scope c)::k)) cs w).fenced P F:=fenced_calm hb hr rfl
 obtain ⟨e,a₁,w₁,⟨hg,hq⟩,harr⟩:=h b (.inScope c::k) cs hro hb hr
 cases e with
 | normal=>exact ⟨.normal,a₁,w₁,hq,.head h0 PV (StepsIn.trans harr (.one (fenced_calm hb hr rfl) qS))⟩
 | exit id=>
   have hx:exitTo id (.inScope c::k)=exitTo id k:=by simp[exitTo]
   exact ⟨.exit id,a₁,w₁,hq,fun k' hk=>.head h0 PV (harr.1 k' (by rw[hx]; exact hk)),fun hs hk=>let ⟨k₁,h1,h2⟩:=harr.2 hs (by rw[hx]; exact hk); ⟨k₁,h1,.head h0 PV h2⟩⟩
 | goto l=>exact absurd rfl (hg l)
 | ret=>exact ⟨_,a₁,w₁,hq,.of_steps (.one h0 PV) harr⟩
 | panic ch=>exact ⟨_,a₁,w₁,hq,.of_steps (.one h0 PV) harr⟩
 | outgrown=>exact ⟨_,a₁,w₁,hq,.of_steps (.one h0 PV) harr⟩
def XL (P:Program) (c:Code) (K:Dh→AZ→Aa→Option ρ) (r:ρ) (lo:Nat) (a:Act) (μ:Mu) (σ:Aa) (w:World) (e:Exit) (a':Act) (w':World):Prop:=
 ∃ x regs' σ' μ',hY x e∧K x regs' σ'=some r∧R P μ' σ' w'∧Step μ σ w μ' σ' w'∧OJ μ' regs' a'.tmps∧W2 lo μ' w' a'.defers∧a'.tmps.size=a.tmps.size ∧ ∀ t,t ∉ Wx c→a'.tmps[t]?=a.tmps[t]?
def jC (ro:Option Nat) (nn:Nat) (P:Program) (c:Code) (regs:AZ) (σ:Aa) (K:Dh→AZ→Aa→Option ρ) (r:ρ):Prop:=
 (∃ x regs' σ',K x regs' σ'=some r∧σ.length≤σ'.length) ∧
 ∀ hi,(∀ x regs' σ',K x regs' σ'=some r→σ'.length≤hi) → ∀ (lo:Nat) (a:Act) (μ:Mu) (w:World),lo≤w.heap.size→R P μ σ w→Ia μ σ.length hi→OJ μ regs a.tmps→W2 lo μ w a.defers→c.wpIn (FW ro) nn P (XL P c K r lo a μ σ w) a w
theorem lQ {l:List Oper} {t:Nat} (h:t ∉ mY l):∀ o ∈ l,o.dst≠some t:=by
 induction l with
 | nil=>simp
 | cons o l ih=>
   simp only[mY,List.mem_append,not_or] at h
   intro o' ho'
   rcases List.mem_cons.1 ho' with rfl | ho'
   ·intro hd; rw[hd] at h; simp at h
   ·exact ih h.2 o' ho'
theorem cV {ro:Option Nat} {nn:Nat} {c:Code} {Q Q':Exit→Act→World→Prop} (hq:∀ e a w,Q e a w→Q' e a w):∀ (n:Nat) (a:Act) (w:World),Code.roundsIn (FW ro) nn P c Q n a w→Code.roundsIn (FW ro) nn P c Q' n a w
 | 0,_,_,h=>h.elim
 | n+1,a,w,h=>by
   rw[roundsIn_succ] at h ⊢
   refine wpIn_mono h fun e a1 w1 h1=>?_
   cases e with
   | normal=>exact cV hq n a1 w1 h1
   | _=>exact hq _ _ _ h1
theorem jC.mono_post {c:Code} {K:Dh→AZ→Aa→Option ρ} {r:ρ} {lo:Nat} {a:Act} {μ:Mu} {σ:Aa} {w:World} {e:Exit} {a':Act} {w':World} {c2:Code} (h:XL P c K r lo a μ σ w e a' w') (hd:∀ t,t ∉ Wx c2→t ∉ Wx c):XL P c2 K r lo a μ σ w e a' w':=by
 obtain ⟨x,regs',σ',μ',h1,h2,h3,h4,h5,h6,h7,h8⟩:=h
 exact ⟨x,regs',σ',μ',h1,h2,h3,h4,h5,h6,h7,fun t ht=>h8 t (hd t ht)⟩
theorem tC {ro:Option Nat} {nn:Nat} (hmix:P.follows .mixedOrders=true) {call:GM} (hcall:Xj P call) {fid:FuncId} {H:Hints} {n:Nat}:∀ (c:Code) {ρ:Type} {regs:AZ} {σ:Aa} {K:Dh→AZ→Aa→Option ρ} {r:ρ},
  Rg P ro fid c→exec P call fid H n c ρ regs σ K=some r→jC ro nn P c regs σ K r:=by
 intro c
 induction c with
 | skip=>
   intro ρ regs σ K r hrg h
   simp only[exec] at h
   exact ⟨⟨_,_,_,h,Nat.le_refl _⟩,fun hi hhi lo a μ w hlo hR hfr hreg hdef=>wpIn_skip ⟨.normal,regs,σ,μ,.normal,h,hR,Step.refl _ _ _,hreg,hdef,rfl,fun _ _=>rfl⟩⟩
 | region id ops draw=>
   intro ρ regs σ K r hrg h
   simp only[exec] at h
   cases hdr:(draw && !gw P ops.toList (VP P ops.toList draw)) with
   | true=>rw[hdr] at h; cases h
   | false=>
     rw[hdr] at h
     simp only[cond_false] at h
     obtain ⟨regs',E',σ',htr,hw,hl,hK⟩:=Y6 hcall _ h (Nx.refl _) rfl
     refine ⟨⟨_,_,_,hK,htr.len.1⟩,fun hi hhi lo a μ w hlo hR hfr hreg hdef=>?_⟩
     have hle:=hhi _ _ _ hK
     cases draw with
     | true=>
       have hd:gw P ops.toList (VP P ops.toList true)=true:=by simpa using hdr
       refine Agk hmix htr hd hle a μ w hR hfr hreg ?_
       intro a' μ' w' h1 h2 h3 h4 h5 h6
       exact ⟨.normal,regs',σ',μ',.normal,hK,h1,h2,h3.Afj hw (by omega),(h4 ▸ hdef.step h2),h5,fun t ht=>h6 t (lQ ht)⟩
     | false=>
       refine wpIn_region ?_
       have:=Akw (ro:=ro) (nn:=nn) (P:=P) (all:=ops) (Q:=XL P (.region id ops false) K r lo a μ σ w) htr (by
        intro io hio
        simp only[List.mem_map] at hio
        obtain ⟨x,hx,rfl⟩:=hio
        have:=List.mem_zipIdx_iff_getElem?.1 hx
        simpa using this) hle a μ w hR hfr hreg (by
        intro a' μ' w' h1 h2 h3 h4 h5 h6
        refine ⟨.normal,regs',σ',μ',.normal,hK,h1,h2,h3.Afj hw (by omega),(h4 ▸ hdef.step h2),h5,fun t ht=>h6 t ?_⟩
        intro io hio
        simp only[List.mem_map] at hio
        obtain ⟨x,hx,rfl⟩:=hio
        have:=List.mem_zipIdx_iff_getElem?.1 hx
        exact lQ ht _ (List.mem_of_getElem? this))
       have hm:(ops.toList.zipIdx.map fun x=>(x.2,x.1)).map (·.1)=List.range ops.size:=by
        rw[List.map_map]
        show ops.toList.zipIdx.map (fun x=>x.2)=_
        simp[List.zipIdx_map_snd,List.range_eq_range']
       rw[hm] at this
       exact this
 | seq x y ihx ihy=>
   intro ρ regs σ K r hrg h
   simp only[exec] at h
   obtain ⟨⟨x1,regs1,σ1,hK1,hl1⟩,hwp⟩:=ihx hrg.seq.1 h
   have hb:∀ (x:Dh) (regs':AZ) (σ':Aa),(match x with
     | .normal=>exec P call fid H n y ρ regs' σ' K
     | .exit id=>K (.exit id) regs' σ'
     | .ret=>K .ret regs' σ')=some r → ∃ x2 regs2 σ2,K x2 regs2 σ2=some r∧σ'.length≤σ2.length:=by
    intro x regs' σ' hq
    cases x with
    | normal=>exact (ihy hrg.seq.2 hq).1
    | exit id=>exact ⟨_,_,_,hq,Nat.le_refl _⟩
    | ret=>exact ⟨_,_,_,hq,Nat.le_refl _⟩
   refine ⟨?_,fun hi hhi lo a μ w hlo hR hfr hreg hdef=>?_⟩
   ·obtain ⟨x2,regs2,σ2,h1,h2⟩:=hb x1 regs1 σ1 hK1
    exact ⟨x2,regs2,σ2,h1,Nat.le_trans hl1 h2⟩
   ·refine wpIn_seq (wpIn_mono (hwp hi (fun x' regs' σ' hq=>?_) lo a μ w hlo hR hfr hreg hdef) ?_)
    ·obtain ⟨x2,regs2,σ2,h1,h2⟩:=hb x' regs' σ' hq
     exact Nat.le_trans h2 (hhi _ _ _ h1)
    ·rintro e a1 w1 ⟨x',regs',σ',μ',hx,hq,g1,g2,g3,g4,g5,g6⟩
     cases hx with
     | normal=>
       simp only[Exit.then]
       refine wpIn_mono ((ihy hrg.seq.2 hq).2 hi hhi lo a1 μ' w1 (Nat.le_trans hlo g2.size) g1 (hfr.step g2) g3 g4) ?_
       rintro e2 a2 w2 ⟨x2,regs2,σ2,μ2,k1,k2,k3,k4,k5,k6,k7,k8⟩
       exact ⟨x2,regs2,σ2,μ2,k1,k2,k3,g2.trans k4,k5,k6,k7.trans g5,fun t ht=>by
        simp only[Wx,List.mem_append,not_or] at ht
        rw[k8 t ht.2,g6 t ht.1]⟩
     | exit id=>
       exact ⟨.exit id,regs',σ',μ',.exit id,hq,g1,g2,g3,g4,g5,fun t ht=>g6 t (by simp only[Wx,List.mem_append,not_or] at ht; exact ht.1)⟩
     | ret=>
       exact ⟨.ret,regs',σ',μ',.ret,hq,g1,g2,g3,g4,g5,fun t ht=>g6 t (by simp only[Wx,List.mem_append,not_or] at ht; exact ht.1)⟩
 | cond c x y ihx ihy=>
   intro ρ regs σ K r hrg h
   simp only[exec] at h
   split at h
   rotate_left
   ·cases h
   rename_i b hb
   split at h
   ·
    cases b with
    | true=>
      simp only[cond_true] at h
      obtain ⟨hlen,hwp⟩:=ihx hrg.cond.1 h
      refine ⟨hlen,fun hi hhi lo a μ w hlo hR hfr hreg hdef=>?_⟩
      have hc:=hreg.ev c _ hb
      refine wpIn_cond_true (by generalize a.eval c=v at hc; cases hc; rfl) (wpIn_mono (hwp hi hhi lo a μ w hlo hR hfr hreg hdef) fun e a' w' hq=>jC.mono_post hq fun t ht=>by simp only[Wx,List.mem_append,not_or] at ht; exact ht.1)
    | false=>
      simp only[cond_false] at h
      obtain ⟨hlen,hwp⟩:=ihy hrg.cond.2 h
      refine ⟨hlen,fun hi hhi lo a μ w hlo hR hfr hreg hdef=>?_⟩
      have hc:=hreg.ev c _ hb
      refine wpIn_cond_false (by generalize a.eval c=v at hc; cases hc; rfl) (wpIn_mono (hwp hi hhi lo a μ w hlo hR hfr hreg hdef) fun e a' w' hq=>jC.mono_post hq fun t ht=>by simp only[Wx,List.mem_append,not_or] at ht; exact ht.2)
   ·
    rename_i hint hH
    simp only[Option.bind_eq_some_iff] at h
    obtain ⟨r1,h1,h2⟩:=h
    have join:∀ (z:Code),(∀ t,t ∉ Wx (.seq x y)→t ∉ Wx z)→jC ro nn P z regs σ (pack hint.exits) r1 →
      (∃ x' regs' σ',K x' regs' σ'=some r∧σ.length≤σ'.length) ∧ ∀ hi,(∀ x' regs' σ',K x' regs' σ'=some r→σ'.length≤hi) → ∀ (lo:Nat) (a:Act) (μ:Mu) (w:World),lo≤w.heap.size→R P μ σ w→Ia μ σ.length hi→OJ μ regs a.tmps→W2 lo μ w a.defers→z.wpIn (FW ro) nn P (XL P (.cond c x y) K r lo a μ σ w) a w:=by
     intro z hz ⟨⟨x1,regs1,σ1,hp1,hl1⟩,hwp⟩
     refine ⟨?_,fun hi hhi lo a μ w hlo hR hfr hreg hdef=>?_⟩
     ·obtain ⟨regs2,g1,g2,g3⟩:=PW hp1 h2
      exact ⟨x1,regs2,σ1,g1,hl1⟩
     ·refine wpIn_mono (hwp hi (fun x' regs' σ' hq=>?_) lo a μ w hlo hR hfr hreg hdef) ?_
      ·obtain ⟨regs2,g1,_,_⟩:=PW hq h2
       exact hhi _ _ _ g1
      ·rintro e a1 w1 ⟨x',regs',σ',μ',hx,hq,g1,g2,g3,g4,g5,g6⟩
       obtain ⟨regs2,k1,k2,k3⟩:=PW hq h2
       have hle:μ.le μ':=g2.le (hfr.sub (Nat.le_refl _) (hhi _ _ _ k1))
       refine ⟨x',regs2,σ',μ',hx,k1,g1,g2,⟨by rw[k2,g5]; exact hreg.1,fun t v hv=>?_⟩,g4,g5,fun t ht=>g6 t (hz t ht)⟩
       rcases k3 t v hv with hv | ⟨ht,hv⟩
       ·exact g3.2 t v hv
       ·obtain ⟨v',q1,q2⟩:=hreg.2 t v hv
        exact ⟨v',by rw[g6 t (hz t ht)]; exact q1,q2.mono hle⟩
    cases b with
    | true=>
      simp only[cond_true] at h1
      obtain ⟨j1,j2⟩:=join x (fun t ht=>by simp only[Wx,List.mem_append,not_or] at ht; exact ht.1) (ihx hrg.cond.1 h1)
      refine ⟨j1,fun hi hhi lo a μ w hlo hR hfr hreg hdef=>?_⟩
      have hc:=hreg.ev c _ hb
      exact wpIn_cond_true (by generalize a.eval c=v at hc; cases hc; rfl) (j2 hi hhi lo a μ w hlo hR hfr hreg hdef)
    | false=>
      simp only[cond_false] at h1
      obtain ⟨j1,j2⟩:=join y (fun t ht=>by simp only[Wx,List.mem_append,not_or] at ht; exact ht.2) (ihy hrg.cond.2 h1)
      refine ⟨j1,fun hi hhi lo a μ w hlo hR hfr hreg hdef=>?_⟩
      have hc:=hreg.ev c _ hb
      exact wpIn_cond_false (by generalize a.eval c=v at hc; cases hc; rfl) (j2 hi hhi lo a μ w hlo hR hfr hreg hdef)
 | block id c ih=>
   intro ρ regs σ K r hrg h
   simp only[exec] at h
   obtain ⟨⟨x1,regs1,σ1,hK1,hl1⟩,hwp⟩:=ih hrg h
   have hb:∀ (x:Dh) (regs':AZ) (σ':Aa),(match x with
     | .normal=>K .normal regs' σ'
     | .exit id'=>if id'=id then K .normal regs' σ' else K (.exit id') regs' σ'
     | .ret=>K .ret regs' σ')=some r → ∃ x2,K x2 regs' σ'=some r∧(∀ e,hY x e → ∀ (Q:Exit→Act→World→Prop) a w,(∀ e2,hY x2 e2→Q e2 a w)→Exit.inBlock id Q e a w):=by
    intro x regs' σ' hq
    cases x with
    | normal=>exact ⟨_,hq,fun e he Q a w hQ=>by cases he; exact hQ _ .normal⟩
    | exit id'=>
      simp only at hq
      split at hq
      ·rename_i hid
       refine ⟨_,hq,fun e he Q a w hQ=>?_⟩
       cases he
       simp only[Exit.inBlock,hid,if_true]
       exact hQ _ .normal
      ·rename_i hid
       refine ⟨_,hq,fun e he Q a w hQ=>?_⟩
       cases he
       simp only[Exit.inBlock,hid,if_false]
       exact hQ _ (.exit id')
    | ret=>exact ⟨_,hq,fun e he Q a w hQ=>by cases he; exact hQ _ .ret⟩
   refine ⟨?_,fun hi hhi lo a μ w hlo hR hfr hreg hdef=>?_⟩
   ·obtain ⟨x2,h2,_⟩:=hb x1 regs1 σ1 hK1
    exact ⟨x2,regs1,σ1,h2,hl1⟩
   ·refine wpIn_block (wpIn_mono (hwp hi (fun x' regs' σ' hq=>?_) lo a μ w hlo hR hfr hreg hdef) ?_)
    ·obtain ⟨x2,h2,_⟩:=hb x' regs' σ' hq
     exact hhi _ _ _ h2
    ·rintro e a1 w1 ⟨x',regs',σ',μ',hx,hq,g1,g2,g3,g4,g5,g6⟩
     obtain ⟨x2,h2,h3⟩:=hb x' regs' σ' hq
     exact h3 e hx _ a1 w1 fun e2 he2=>⟨x2,regs',σ',μ',he2,h2,g1,g2,g3,g4,g5,g6⟩
 | loop c ih=>
   intro ρ regs σ K r hrg h
   simp only[exec] at h
   split at h
   ·cases h
   rename_i hint hH
   simp only[Option.bind_eq_some_iff] at h
   obtain ⟨r1,h1,h2⟩:=h
   have rounds:∀ (m:Nat) (regs1:AZ) (σ1:Aa),lP (fun regs σ K=>exec P call fid H n c Ax regs σ K) hint m regs1 σ1=some r1 →
     (∃ x' regs',pack hint.exits x' regs' r1.2.2=some r1∧σ1.length≤r1.2.2.length) ∧
     ∀ hi,r1.2.2.length≤hi → ∀ (lo:Nat) (a:Act) (μ:Mu) (w:World),lo≤w.heap.size→R P μ σ1 w→Ia μ σ1.length hi→OJ μ regs1 a.tmps→W2 lo μ w a.defers →
      Code.roundsIn (FW ro) nn P c (fun e a' w'=>∃ x' regs' μ',hY x' e∧x' ≠ .normal∧pack hint.exits x' regs' r1.2.2=some r1∧R P μ' r1.2.2 w'∧Step μ σ1 w μ' r1.2.2 w'∧OJ μ' regs' a'.tmps∧W2 lo μ' w' a'.defers∧a'.tmps.size=a.tmps.size ∧ ∀ t,t ∉ Wx c→a'.tmps[t]?=a.tmps[t]?) m a w:=by
    intro m
    induction m with
    | zero=>intro regs1 σ1 hq; cases hq
    | succ m ihm=>
      intro regs1 σ1 hq
      simp only[lP] at hq
      obtain ⟨⟨x1,regs2,σ2,hK1,hl1⟩,hwp⟩:=ih hrg hq
      have hpk:∀ (x:Dh) (regs':AZ) (σ':Aa),pack hint.exits x regs' σ'=some r1→σ'=r1.2.2:=by
       intro x regs' σ' hp
       unfold pack at hp
       simp only[Option.bind_eq_some_iff] at hp
       obtain ⟨outs,_,hp⟩:=hp
       obtain ⟨vs,_,_,hk⟩:=gF hp
       cases hk; rfl
      have hb:∀ (x:Dh) (regs':AZ) (σ':Aa),(match x with
        | .normal=>lP (fun regs σ K=>exec P call fid H n c Ax regs σ K) hint m (ZB hint.live regs') σ'
        | x=>pack hint.exits x regs' σ')=some r1→σ'.length≤r1.2.2.length:=by
       intro x regs' σ' hq
       cases x with
       | normal=>obtain ⟨_,_,_,hl⟩:=(ihm _ _ hq).1; exact hl
       | exit id=>rw[hpk _ _ _ hq]; exact Nat.le_refl _
       | ret=>rw[hpk _ _ _ hq]; exact Nat.le_refl _
      refine ⟨?_,fun hi hhi lo a μ w hlo hR hfr hreg hdef=>?_⟩
      ·cases x1 with
       | normal=>obtain ⟨x',regs',hp,hl⟩:=(ihm _ _ hK1).1; exact ⟨x',regs',hp,Nat.le_trans hl1 hl⟩
       | exit id=>have:=hpk _ _ _ hK1; subst this; exact ⟨_,_,hK1,hl1⟩
       | ret=>have:=hpk _ _ _ hK1; subst this; exact ⟨_,_,hK1,hl1⟩
      ·rw[roundsIn_succ]
       refine wpIn_mono (hwp hi (fun x' regs' σ' hq=>Nat.le_trans (hb x' regs' σ' hq) hhi) lo a μ w hlo hR hfr hreg hdef) ?_
       rintro e a1 w1 ⟨x',regs',σ',μ',hx,hq,g1,g2,g3,g4,g5,g6⟩
       cases hx with
       | normal=>
         simp only[Exit.then]
         have:=(ihm _ _ hq).2 hi hhi lo a1 μ' w1 (Nat.le_trans hlo g2.size) g1 (hfr.step g2) (g3.Afj (cG _ _) (by rw[X5]; exact Nat.le_refl _)) g4
         refine cV ?_ _ _ _ this
         rintro e2 a2 w2 ⟨x2,regs2,μ2,k1,k1',k2,k3,k4,k5,k6,k7,k8⟩
         exact ⟨x2,regs2,μ2,k1,k1',k2,k3,g2.trans k4,k5,k6,k7.trans g5,fun t ht=>by rw[k8 t ht,g6 t ht]⟩
       | exit id=>
         have:=hpk _ _ _ hq; subst this
         exact ⟨.exit id,regs',μ',.exit id,by simp,hq,g1,g2,g3,g4,g5,g6⟩
       | ret=>
         have:=hpk _ _ _ hq; subst this
         exact ⟨.ret,regs',μ',.ret,by simp,hq,g1,g2,g3,g4,g5,g6⟩
   obtain ⟨⟨x1,regs1,hp1,hl1⟩,hwp⟩:=rounds n _ _ h1
   refine ⟨?_,fun hi hhi lo a μ w hlo hR hfr hreg hdef=>?_⟩
   ·obtain ⟨regs2,g1,_,_⟩:=PW hp1 h2
    exact ⟨x1,regs2,_,g1,hl1⟩
   ·obtain ⟨regs2',g1',_,_⟩:=PW hp1 h2
    have hle':=hhi _ _ _ g1'
    refine wpIn_loop_rounds n (cV ?_ _ _ _ (hwp hi hle' lo a μ w hlo hR hfr (hreg.Afj (cG _ _) (by rw[X5]; exact Nat.le_refl _)) hdef))
    rintro e a1 w1 ⟨x',regs',μ',hx,_,hq,g1,g2,g3,g4,g5,g6⟩
    obtain ⟨regs2,k1,k2,k3⟩:=PW hq h2
    have hle:μ.le μ':=g2.le (hfr.sub (Nat.le_refl _) hle')
    refine ⟨x',regs2,_,μ',hx,k1,g1,g2,⟨by rw[k2,g5]; exact hreg.1,fun t v hv=>?_⟩,g4,g5,g6⟩
    rcases k3 t v hv with hv | ⟨ht,hv⟩
    ·exact g3.2 t v hv
    ·obtain ⟨v',q1,q2⟩:=hreg.2 t v hv
     exact ⟨v',by rw[g6 t ht]; exact q1,q2.mono hle⟩
 | exit id=>
   intro ρ regs σ K r hrg h
   simp only[exec] at h
   exact ⟨⟨_,_,_,h,Nat.le_refl _⟩,fun hi hhi lo a μ w hlo hR hfr hreg hdef=>wpIn_exit ⟨.exit id,regs,σ,μ,.exit id,h,hR,Step.refl _ _ _,hreg,hdef,rfl,fun _ _=>rfl⟩⟩
 | ret=>
   intro ρ regs σ K r hrg h
   simp only[exec] at h
   exact ⟨⟨_,_,_,h,Nat.le_refl _⟩,fun hi hhi lo a μ w hlo hR hfr hreg hdef=>wpIn_ret ⟨.ret,regs,σ,μ,.ret,h,hR,Step.refl _ _ _,hreg,hdef,rfl,fun _ _=>rfl⟩⟩
 | label l=>
   intro ρ regs σ K r hrg h
   simp only[exec] at h
   exact ⟨⟨_,_,_,h,Nat.le_refl _⟩,fun hi hhi lo a μ w hlo hR hfr hreg hdef=>wpIn_label ⟨.normal,regs,σ,μ,.normal,h,hR,Step.refl _ _ _,hreg,hdef,rfl,fun _ _=>rfl⟩⟩
 | scope c ih=>
   intro ρ regs σ K r hrg h
   simp only[exec] at h
   obtain ⟨h1,h2⟩:=ih hrg h
   exact ⟨h1,fun hi hhi lo a μ w hlo hR hfr hreg hdef=>yw (wpIn_mono (h2 hi hhi lo a μ w hlo hR hfr hreg hdef) fun e a w hq=>⟨(by
    obtain ⟨x,_,_,_,hx,_⟩:=hq
    rintro l rfl; cases hx),hq⟩)⟩
 | rangeFunc g ps asg body _ _=>
   intro ρ regs σ K r hrg h
   obtain ⟨x,hrx,hro⟩:=hrg
   obtain ⟨rfl,F,cb,hF,hcb,hth⟩:=hro (by simp only[ranges]; omega)
   cases hrx
   simp only[exec] at h
   split at h
   rotate_left
   ·cases h
   rename_i gv hint hgv hH
   cases hfn:Aa2 gv with
   | false=>rw[hfn] at h; cases h
   | true=>
   rw[hfn] at h
   obtain ⟨f,first,cap,rfl⟩:=Aa3 hfn
   simp only[cond_true,ID] at h
   obtain ⟨⟨v,σ2⟩,hcl,h⟩:=Option.bind_eq_some_iff.1 h
   obtain ⟨hny,hcl⟩:=tK hcl
   obtain ⟨hlen,_,⟨F2,hF2,hbody,hname⟩,hcalls⟩:=hcall.fn _ _ _ _ _ hny hcl
   obtain ⟨f',st,regs',x,hs2,hK,hx⟩:=qG h
   obtain ⟨_,_,hK⟩:=dt hK
   have hl2:σ.length≤(σ2.set σ.length .dead).length:=by simp at hlen ⊢; omega
   refine ⟨⟨_,_,_,hK,hl2⟩,fun hi hhi lo a μ w hlo hR hfr hreg hdef=>?_⟩
   have hhi2:σ2.length≤hi:=by have:=hhi _ _ _ hK; simpa using this
   have hrf:=hreg.ev g _ hgv
   generalize hag:a.eval g=ag at hrf
   cases hrf with
   | @func _ _ first' _ cap' hny' h1' h2'=>
   refine wpIn_rangeFunc fun fn _=>?_
   have hle1:lo≤w.heap.size:=hlo
   have hR1:=(hR.extra (.deferred (some []))).alloc (o:=.loop fid .ready (ZB hint.live regs)) (x:=.loop { state:=.ready,pending:=none,fn,tmps:=a.tmps,params:=ps,assign:=asg,body,defers:=w.heap.size })
    (k:=⟨w.heap.size+1,0,0,0,0⟩) (hfr _ (Nat.le_refl _) (by simp at hlen; omega)) (by simp) (by
     refine ⟨_,rfl,⟨F,cb,hF,hcb,hth⟩, ?_,rfl,rfl⟩
     exact (hreg.Afj (cG _ _) (by rw[X5]; exact Nat.le_refl _)))
   have hS1:Step μ σ w (μ.put σ.length ⟨w.heap.size+1,0,0,0,0⟩) (σ++[.loop fid .ready (ZB hint.live regs)])
     (Aew w fn a.tmps ps asg body):=
    (Step.extra (.deferred (some []))).trans (Step.alloc (by simp))
   have hfr1:Ia (μ.put σ.length ⟨w.heap.size+1,0,0,0,0⟩) (σ++[A6.loop fid .ready (ZB hint.live regs)]).length hi:=hfr.step hS1
   have hm1:W2 lo (μ.put σ.length ⟨w.heap.size+1,0,0,0,0⟩) (Aew w fn a.tmps ps asg body)
     ([{ target:=.collected w.heap.size,args:=#[] }]++a.defers):=by
    have hold:=hdef.step hS1
    refine ⟨fun d hd=>?_, ?_⟩
    ·rcases List.mem_append.1 hd with hd | hd
     ·simp only[List.mem_singleton] at hd
      subst hd
      refine ⟨w.heap.size,rfl,hlo,by simp; omega, ?_,fun i k hk=>?_⟩
      ·rw[heap_alloc_old (by simp)]; exact heap_alloc_new w _
      ·by_cases hi':i=σ.length
       ·subst hi'; rw[Mu.FN] at hk; cases hk; simp
       ·rw[Mu.Gd μ _ hi'] at hk
        have:=hR.lt _ _ hk; omega
     ·exact hold.1 d hd
    ·rw[List.singleton_append,List.nodup_cons]
     refine ⟨fun hin=>?_,hdef.2⟩
     obtain ⟨b,hb,_,hlt,_⟩:=hdef.1 _ hin
     simp only[Deferred.mk.injEq,Target.collected.injEq,and_true] at hb
     omega
   refine ⟨_,_,Aew w fn a.tmps ps asg body,{ target:=.fn (.func f) cap',args:=first' ++ #[.func (.yield (w.heap.size+1)) #[] #[]] },Aew w fn a.tmps ps asg body,f,first' ++ #[.func (.yield (w.heap.size+1)) #[] #[]]++cap',Aew w fn a.tmps ps asg body,run_enterLoop_outer fn a.tmps ps asg body, ?_,fun _ _=>trivial, ?_,fun hh=>(by cases hh), ?_⟩
   ·have he:∀ v,a.eval (.const v)=v:=fun _=>rfl
    simp only[resolve,rangeCall,hag,Deferred.ofValue,Sem.run_pure,Array.map_singleton,List.map_toArray,List.map_cons,List.map_nil,he]
   ·have hb:F2.body.isNone=false:=by cases hq:F2.body <;> simp_all
    simp only[invoke,callFunc,Sem.run_bind,run_program,Result.andThen_ok,hF2,hname,hb,Bool.false_eq_true,if_false,Sem.run_pure]
   ·have hc:=hcalls _ _ (first' ++ #[.func (.yield (w.heap.size+1)) #[] #[]]++cap') hR1 (hfr1.sub (Nat.le_refl _) hhi2) (by
     have hle:μ.le (μ.put σ.length ⟨w.heap.size+1,0,0,0,0⟩):=hS1.le (hfr.sub (Nat.le_refl _) (by simp at hlen ⊢; omega))
     have hy:KE (μ.put σ.length ⟨w.heap.size+1,0,0,0,0⟩) [Value.func (.yield σ.length) #[] #[]] [.func (.yield (w.heap.size+1)) #[] #[]]:=.cons (.yield (k:=⟨w.heap.size+1,0,0,0,0⟩) (Mu.FN _ _ _)) .nil
     simpa using ((h1'.mono hle).append hy).append (h2'.mono hle))
    refine (yX hc).mono ?_
    rintro e' w2 ⟨μ2,v',rfl,g1,g2,g3⟩
    have hk2:μ2 σ.length=some ⟨w.heap.size+1,0,0,0,0⟩:=by
     rw[g3.mu _ (.inl (by simp))]; exact Mu.FN _ _ _
    obtain ⟨r2,hr2,hlr⟩:=g2.obj _ _ _ hs2 hk2
    obtain ⟨_,hreg2,hst⟩:=hlr
    have hnb:r2.state ≠ .busy:=by
     rcases hx with ⟨rfl,_⟩ | ⟨rfl,_⟩
     ·rw[hst.1]; decide
     ·rw[hst.1]; decide
    obtain ⟨hR3,hS3⟩:=g2.record hk2 hs2 (o:=.dead) (x:=.loop { r2 with state:=.exhausted }) trivial
    have hS:=(hS1.trans g3).trans hS3
    have hle3:μ.le μ2:=hS.le (hfr.sub (Nat.le_refl _) (by simpa using hhi2))
    have post:∀ e,hY x e→XL P (.rangeFunc g ps asg body) K r lo a μ σ w e { a with defers:=[{ target:=.collected w.heap.size,args:=#[] }]++a.defers } (w2.putObj (w.heap.size+1) (.loop { r2 with state:=.exhausted })):=fun e he=>
     ⟨x,regs,_,μ2,he,hK,hR3,hS,hreg.mono hle3,(hm1.step g3).step hS3,rfl,fun _ _=>rfl⟩
    refine ⟨_,_,run_endLoop hr2 hnb, ?_⟩
    generalize w2.putObj (w.heap.size+1) (.loop { r2 with state:=.exhausted })=w4 at post ⊢
    rcases hx with ⟨rfl,rfl⟩ | ⟨rfl,hne⟩
    ·rw[hst.2]; exact post _ .normal
    ·rw[hst.2]
     cases x with
     | normal=>exact absurd rfl hne
     | exit id=>exact wpIn_exit (post _ (.exit id))
     | ret=>exact wpIn_ret (post _ .ret)
 | _=>intros; rename_i h; simp only[exec] at h; cases h
end Go.AX
