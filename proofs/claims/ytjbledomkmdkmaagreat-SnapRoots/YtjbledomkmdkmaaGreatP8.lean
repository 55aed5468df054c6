/-
 The executor is sound.
-/
import Derived.LoopNIn
import Derived.RangeFuncRecord
import Derived.LoopN
import Derived.Test.YtjbledomkmdkmaaGreatP7
set_option linter.unusedVariables false
set_option linter.unusedSimpArgs false
set_option linter.unusedSectionVars false
namespace Go.AX
open Go
noncomputable section
variable {ρ:Type} {P:Program} [AA]
theorem Uw {regs:Bc} {r:Bl}:∀ {os:List (Nat × Kd)} {K:List Value->Option Bl},Zj regs os K=some r -> ∃ vs,vs.length=os.length/\(∀ (j:Nat) t k,os[j]?=some (t,k)->regs.getD t none=vs[j]?)/\K vs=some r
 | [],K,h=>⟨[],rfl,by simp,h⟩
 | (t,k)::os,K,h=>by
   simp only[Zj,IS] at h;obtain ⟨v,hv,h⟩:=h;obtain ⟨vs,h1,h2,h3⟩:=Uw h;refine ⟨v::vs,by simp[h1], ?_,h3⟩;intro j t' k' hj;cases j with
   | zero=>simp at hj; obtain ⟨rfl,rfl⟩:=hj; simpa using hv
   | succ j=>simpa using h2 j t' k' (by simpa using hj)
theorem So:∀ {os:List (Nat × Kd)} {vs:List Value} {regs:Bc},(Wt os vs regs).length=regs.length /\
  ∀ (t:Nat) (v:Value),(Wt os vs regs).getD t none=some v->(∃ (j:Nat) (k:Kd),os[j]?=some (t,k)/\vs[j]?=some v)\/regs.getD t none=some v
 | [],vs,regs=>⟨by cases vs <;> rfl,fun t v h=>.inr (by cases vs <;> exact h)⟩
 | (t0,k0)::os,[],regs=>⟨rfl,fun t v h=>.inr h⟩
 | (t0,k0)::os,v0::vs,regs=>by
   obtain ⟨h1,h2⟩:=So (os:=os) (vs:=vs) (regs:=regs.set t0 (some v0));refine ⟨by simp only[Wt]; rw[h1]; simp,fun t v h=>?_⟩;simp only[Wt] at h;rcases h2 t v h with ⟨j,k,hj1,hj2⟩ | h
   ·exact .inl ⟨j+1,k,by simpa using hj1,by simpa using hj2⟩
   ·rw[IL] at h;split at h
    ·rename_i hc;cases h;exact .inl ⟨0,k0,by rw[hc.1]; rfl,rfl⟩
    ·exact .inr h
theorem VZ:∀ {ts:List Nat} {regs:Bc},(forget.go ts regs).length=regs.length /\ ∀ (t:Nat) (v:Value),(forget.go ts regs).getD t none=some v->t ∉ ts/\regs.getD t none=some v
 | [],regs=>⟨rfl,fun t v h=>⟨by simp,h⟩⟩
 | t0::ts,regs=>by
   obtain ⟨h1,h2⟩:=VZ (ts:=ts) (regs:=regs.set t0 none);refine ⟨by simp only[forget.go]; rw[h1]; simp,fun t v h=>?_⟩;obtain ⟨g1,g2⟩:=h2 t v h;rw[IL] at g2;split at g2
   ·cases g2
   ·rename_i hc;refine ⟨?_,g2⟩;rw[yL];rintro (rfl | h')
    ·have:t<regs.length:=by
      rcases zL t regs.length with h | h
      ·exact h
      ·rw[yd,zg h] at g2; cases g2
     exact hc ⟨rfl,this⟩
    ·exact g1 h'
theorem St {x:Cc} {K:Cc->List (Nat × Kd)->Option ρ} {r:ρ}:∀ {es:List (Cc × List (Nat × Kd))},UB x K es=some r -> ∃ outs,cx x es=some outs/\K x outs=some r
 | [],h=>by cases h
 | e::es,h=>by
   simp only[UB] at h;simp only[cx];split at h
   ·rename_i hx;rw[yk hx];rw[hx];exact ⟨e.2,rfl,h⟩
   ·rename_i hx;rw[ym hx];exact St h
theorem KT {h:Hint} {c:Code} {regs regs':Bc} {x:Cc} {J':Aa} {r1:Bl} {K:Cc->Bc->Aa->Option ρ} {r:ρ} (hp:pack h.exits x regs' J'=some r1) (hu:unpack h c regs r1 K=some r):
  ∃ regs2,K x regs2 J'=some r/\regs2.length=regs.length /\ ∀ (t:Nat) (v:Value),regs2.getD t none=some v->regs'.getD t none=some v\/(t ∉ NQ c/\regs.getD t none=some v):=by
 unfold pack at hp;simp only[IS] at hp;obtain ⟨outs,ho,hp⟩:=hp;obtain ⟨vs,hl,hv,hk⟩:=Uw hp;cases hk;unfold unpack at hu;obtain ⟨outs',ho',hu⟩:=St hu;simp only at ho';rw[ho] at ho'; cases ho';obtain ⟨h1,h2⟩:=V9 hu;simp only at h2;rw[zI,<- hl,Ade] at h2;refine ⟨_,h2, ?_,fun t v hv'=>?_⟩
 ·rw[So.1]; exact VZ.1
 ·rcases So.2 t v hv' with ⟨j,k,g1,g2⟩ | g
  ·left; rw[hv j t k g1]; exact g2
  ·right; exact VZ.2 t v g
theorem OC {live:List Nat}:∀ {regs:Bc} {i:Nat},(N5 live i regs).length=regs.length /\ ∀ (t:Nat) (v:Value),(N5 live i regs).getD t none=some v->regs.getD t none=some v
 | [],i=>⟨rfl,fun t v h=>h⟩
 | r::rs,i=>by
   obtain ⟨h1,h2⟩:=OC (live:=live) (regs:=rs) (i:=i+1);refine ⟨by simp[N5,h1],fun t v h=>?_⟩;cases t with
   | zero=>
     simp only[N5,List.getD_cons_zero] at h ⊢;split at h
     ·exact h
     ·cases h
   | succ t=>
     simp only[N5,List.getD_cons_succ] at h ⊢;exact h2 t v h
theorem RU (live:List Nat) (regs:Bc):JO regs (Qi live regs):=fun t v h=>OC.2 t v h
theorem OD (live:List Nat) (regs:Bc):(Qi live regs).length=regs.length:=OC.1
inductive UD:Cc->Exit->Prop
 | normal:UD .normal .normal
 | exit (id:Nat):UD (.exit id) (.exit id)
 | ret:UD .ret .ret
def NT (lo:Nat) (Z:Mu) (w:World) (ds:List Deferred):Prop:=
 (∀ d ∈ ds,∃ b,d={ target:=.collected b,args:=#[] }/\lo<=b/\b<w.heap.size/\w.heap[b]?=some (.deferred (some [])) /\ ∀ h k,Z h=some k->k.b≠b)/\ds.Nodup
theorem NT.nil (lo:Nat) (Z:Mu) (w:World):NT lo Z w []:=⟨fun d hd=>by simp at hd,List.nodup_nil⟩
theorem NT.step {lo:Nat} {Z Z':Mu} {J J':Aa} {w w':World} {ds:List Deferred} (h:NT lo Z w ds) (s:Step Z J w Z' J' w'):NT lo Z' w' ds:=by
 refine ⟨fun d hd=>?_,h.2⟩;obtain ⟨b,hb,h1,h2,h3,h4⟩:=h.1 d hd;refine ⟨b,hb,h1,yG h2 s.size, ?_,fun i k hk=>?_⟩
 ·rw[s.frame b h2 fun i k _ hk he=>absurd he (h4 i k hk)]; exact h3
 ·by_cases hi:i<J.length\/J'.length<=i
  ·rw[s.mu i hi] at hk; exact h4 i k hk
  ·rcases s.new i k (by omega) (by omega) hk with hn | ⟨h0,k0,_,hk0,he,_⟩
   ·omega
   ·rw[<- he]; exact h4 h0 k0 hk0
def ZL (x:Array Tmp × Code × Code):Code->Prop
 | .seq a b=>ZL x a/\ZL x b
 | .cond _ a b=>ZL x a/\ZL x b
 | .block _ c=>ZL x c
 | .loop c=>ZL x c
 | .scope c=>ZL x c
 | .rangeFunc _ ps a b=>(ps,a,b)=x
 | _=>True
theorem Nc {x:Array Tmp × Code × Code}:∀ {c:Code},Ch c=none->ZL x c:=by
 intro c
 induction c with
 | seq a b iha ihb=>
   intro h;simp only[Ch] at h;split at h
   ·cases h
   ·rename_i h1; exact ⟨iha h1,ihb h⟩
 | cond _ a b iha ihb=>
   intro h;simp only[Ch] at h;split at h
   ·cases h
   ·rename_i h1; exact ⟨iha h1,ihb h⟩
 | block _ c ih=>intro h; exact ih h
 | loop c ih=>intro h; exact ih h
 | scope c ih=>intro h; exact ih h
 | rangeFunc=>intro h; cases h
 | _=>intro _; trivial
theorem Mw:∀ {c:Code},ranges c=0->Ch c=none:=by
 intro c
 induction c with
 | seq a b iha ihb=>
   intro h;simp only[ranges] at h;simp only[Ch,iha (by omega),ihb (by omega)]
 | cond _ a b iha ihb=>
   intro h;simp only[ranges] at h;simp only[Ch,iha (by omega),ihb (by omega)]
 | block _ c ih=>intro h; exact ih h
 | loop c ih=>intro h; exact ih h
 | scope c ih=>intro h; exact ih h
 | rangeFunc=>intro h; simp[ranges] at h
 | _=>intro _; rfl
theorem fT:∀ {c:Code},Ch c=none->ranges c=0:=by
 intro c
 induction c with
 | seq a b iha ihb=>
   intro h;simp only[Ch] at h;split at h
   ·cases h
   ·rename_i h1; simp only[ranges,iha h1,ihb h]
 | cond _ a b iha ihb=>
   intro h;simp only[Ch] at h;split at h
   ·cases h
   ·rename_i h1; simp only[ranges,iha h1,ihb h]
 | block _ c ih=>intro h; exact ih h
 | loop c ih=>intro h; exact ih h
 | scope c ih=>intro h; exact ih h
 | rangeFunc=>intro h; cases h
 | _=>intro _; rfl
theorem qm {x:Array Tmp × Code × Code}:∀ {c:Code},ranges c<=1->Ch c=some x->ZL x c:=by
 intro c
 induction c with
 | seq a b iha ihb=>
   intro h g;simp only[ranges] at h;simp only[Ch] at g;split at g
   ·rename_i y h1;cases g;have:ranges a≠0:=fun h0=>by rw[Mw h0] at h1; cases h1
    exact ⟨iha (by omega) h1,Nc (Mw (by omega))⟩
   ·rename_i h1; exact ⟨Nc h1,ihb (by omega) g⟩
 | cond _ a b iha ihb=>
   intro h g;simp only[ranges] at h;simp only[Ch] at g;split at g
   ·rename_i y h1;cases g;have:ranges a≠0:=fun h0=>by rw[Mw h0] at h1; cases h1
    exact ⟨iha (by omega) h1,Nc (Mw (by omega))⟩
   ·rename_i h1; exact ⟨Nc h1,ihb (by omega) g⟩
 | block _ c ih=>intro h g; exact ih h g
 | loop c ih=>intro h g; exact ih h g
 | scope c ih=>intro h g; exact ih h g
 | rangeFunc=>intro h g; simp only[Ch,zQ] at g; exact g
 | _=>intro _ g; cases g
theorem gB {x:Array Tmp × Code × Code}:∀ {c:Code},Ch c=some x->ranges x.2.1+ranges x.2.2+1<=ranges c:=by
 intro c
 induction c with
 | seq a b iha ihb=>
   intro g;simp only[Ch] at g;simp only[ranges];split at g
   ·rename_i y h1; cases g; have:=iha h1; omega
   ·have:=ihb g; omega
 | cond _ a b iha ihb=>
   intro g;simp only[Ch] at g;simp only[ranges];split at g
   ·rename_i y h1; cases g; have:=iha h1; omega
   ·have:=ihb g; omega
 | block _ c ih=>intro g; exact ih g
 | loop c ih=>intro g; exact ih g
 | scope c ih=>intro g; exact ih g
 | rangeFunc=>intro g; simp only[Ch,zQ] at g; subst g; exact yj _
 | _=>intro g; cases g
def Rg (P:Program) (ro:Option Nat) (fid:FuncId) (c:Code):Prop:=
 ∃ x,ZL x c/\(ranges c≠0->ro=none /\ ∃ F cb,P.funcs[fid]?=some F/\F.body=some cb/\Ch cb=some x)
theorem Rg.zero {ro:Option Nat} {fid:FuncId} {c:Code} (h:ranges c=0):Rg P ro fid c:=⟨default,Nc (Mw h),fun hn=>absurd h hn⟩
theorem Rg.seq {ro:Option Nat} {fid:FuncId} {a b:Code} (h:Rg P ro fid (.seq a b)):Rg P ro fid a/\Rg P ro fid b:=by
 obtain ⟨x,h1,h2⟩:=h;exact ⟨⟨x,h1.1,fun hn=>h2 (by simp only[ranges]; omega)⟩,⟨x,h1.2,fun hn=>h2 (by simp only[ranges]; omega)⟩⟩
theorem Rg.cond {ro:Option Nat} {fid:FuncId} {c:Operand} {a b:Code} (h:Rg P ro fid (.cond c a b)):Rg P ro fid a/\Rg P ro fid b:=by
 obtain ⟨x,h1,h2⟩:=h;exact ⟨⟨x,h1.1,fun hn=>h2 (by simp only[ranges]; omega)⟩,⟨x,h1.2,fun hn=>h2 (by simp only[ranges]; omega)⟩⟩
theorem R.extra {Z:Mu} {J:Aa} {w:World} (h:R P Z J w) (x:Obj):R P Z J (w.alloc x):=
 ⟨fun i o k ho hk=>by rw[heap_alloc_old (h.lt i k hk)]; exact h.obj i o k ho hk,fun i k hk=>yG (h.lt i k hk) (by simp),h.inj⟩
theorem Step.extra {Z:Mu} {J:Aa} {w:World} (x:Obj):Step Z J w Z J (w.alloc x):=
 ⟨yj _,fun _ _=>rfl,fun _ _ h=>h,fun h k h1 h2=>absurd h2 (by omega),by simp,rfl,rfl,rfl,fun b hb _=>heap_alloc_old hb⟩
theorem ZW {J:Aa} {h:Nat} {f:FuncId} {st:ti} {regs:Bc} (hs:J[h]?=some (.loop f st regs)):Az J h:=by
 unfold Az; rw[hs]; trivial
theorem R.record {Z:Mu} {J:Aa} {w:World} (hR:R P Z J w) {h:Nat} {k:Ww} (hk:Z h=some k) {f:FuncId} {st:ti} {regs:Bc} (hs:J[h]?=some (.loop f st regs)) {o:Au} {x:Obj} (ho:ZK P Z o k (some x)):
  R P Z (J.set h o) (w.putObj k.b x)/\Step Z J w Z (J.set h o) (w.putObj k.b x):=by
 have hw:=ZW hs;have hlt:=hR.lt _ _ hk;have hother:∀ b,b≠k.b->(w.putObj k.b x).heap[b]?=w.heap[b]?:=fun b hb=>World.putObj_heap_other hb;refine ⟨hR.sZ hk ⟨_,hs,by simp⟩ hw (by simp) hother (by rw[World.putObj_heap_same hlt]; exact ho),Step.sZ hk (yu.1 hs).1 hw (by simp) rfl rfl rfl hother⟩
theorem ZU {h:Nat} {J:Aa} {K:Cc->Aa->Option ρ} {r:ρ} (hh:N1 h J K=some r):
  ∃ f st regs x,J[h]?=some (.loop f st regs)/\K x (J.set h .dead)=some r/\((st = .ready/\x = .normal)\/(st = .done x/\x ≠ .normal)):=by
 unfold N1 at hh;split at hh
 ·rename_i hs; exact ⟨_,_,_,_,hs,hh,.inl ⟨rfl,rfl⟩⟩
 ·rename_i f y regs hs;split at hh
  ·cases hh
  ·rename_i hne;exact ⟨_,_,_,_,hs,hh,.inr ⟨rfl,hne⟩⟩
 ·cases hh
theorem mw {v:Value} (h:fc v=true):∃ f a b,v = .func (.func f) a b:=by
 unfold fc at h;split at h
 ·exact ⟨_,_,_,rfl⟩
 ·cases h
abbrev qh (w:World) (fn:FuncId) (tmps:Array Value) (ps:Array Tmp) (asg body:Code):World:=
 (w.alloc (.deferred (some []))).alloc (.loop { state:=.ready,pending:=none,fn,tmps,params:=ps,assign:=asg,body,defers:=w.heap.size })
theorem KS {b:Frame} {a:Act} {k:List Item} {cs:List Frame} {w:World} {c:Code}:step P (lone (b.atR a (.code (.scope c)::k)) cs w) = .next (lone (b.atR a (.code c :: .inScope c::k)) cs w):=
 step_lone_go (by simp[stepG,stepG.exec,Frame.atR])
theorem aa {b:Frame} {a:Act} {k:List Item} {cs:List Frame} {w:World} {c:Code}:step P (lone (b.atR a (.inScope c::k)) cs w) = .next (lone (b.atR a k) cs w):=
 step_lone_go (by simp[stepG,stepG.exec,Frame.atR])
theorem j7 {F:Fence} {n:Nat} {c:Code} {Q:Exit->Act->World->Prop} {a:Act} {w:World} (h:c.wpIn F n P (fun e a w=>(∀ l,e ≠ .goto l)/\Q e a w) a w):(Code.scope c).wpIn F n P Q a w:=by
 intro b k cs hro hb hr;have h0:(lone (b.atR a (.code (.scope c)::k)) cs w).fenced P F:=fenced_calm hb hr rfl;obtain ⟨e,a₁,w₁,⟨hg,hq⟩,harr⟩:=h b (.inScope c::k) cs hro hb hr;cases e with
 | normal=>exact ⟨.normal,a₁,w₁,hq,.head h0 KS (StepsIn.trans harr (.one (fenced_calm hb hr rfl) aa))⟩
 | exit id=>
   have hx:exitTo id (.inScope c::k)=exitTo id k:=by simp[exitTo]
   exact ⟨.exit id,a₁,w₁,hq,fun k' hk=>.head h0 KS (harr.1 k' (by rw[hx]; exact hk)),fun hs hk=>let ⟨k₁,h1,h2⟩:=harr.2 hs (by rw[hx]; exact hk); ⟨k₁,h1,.head h0 KS h2⟩⟩
 | goto l=>exact absurd rfl (hg l)
 | ret=>exact ⟨_,a₁,w₁,hq,.of_steps (.one h0 KS) harr⟩
 | panic ch=>exact ⟨_,a₁,w₁,hq,.of_steps (.one h0 KS) harr⟩
 | outgrown=>exact ⟨_,a₁,w₁,hq,.of_steps (.one h0 KS) harr⟩
def ON (P:Program) (c:Code) (K:Cc->Bc->Aa->Option ρ) (r:ρ) (lo:Nat) (a:Act) (Z:Mu) (J:Aa) (w:World) (e:Exit) (a':Act) (w':World):Prop:=
 ∃ x regs' J' Z',UD x e/\K x regs' J'=some r/\R P Z' J' w'/\Step Z J w Z' J' w'/\Kx Z' regs' a'.tmps/\NT lo Z' w' a'.defers/\a'.tmps.size=a.tmps.size /\ ∀ t,t ∉ NQ c->a'.tmps[t]?=a.tmps[t]?
def V7 (ro:Option Nat) (nn:Nat) (P:Program) (c:Code) (regs:Bc) (J:Aa) (K:Cc->Bc->Aa->Option ρ) (r:ρ):Prop:=
 (∃ x regs' J',K x regs' J'=some r/\J.length<=J'.length) /\
 ∀ hi,(∀ x regs' J',K x regs' J'=some r->J'.length<=hi) -> ∀ (lo:Nat) (a:Act) (Z:Mu) (w:World),lo<=w.heap.size->R P Z J w->GL Z J.length hi->Kx Z regs a.tmps->NT lo Z w a.defers->c.wpIn (FW ro) nn P (ON P c K r lo a Z J w) a w
theorem WR {l:List Oper} {t:Nat} (h:t ∉ XC l):∀ o ∈ l,o.dst≠some t:=by
 induction l with
 | nil=>simp
 | cons o l ih=>
   simp only[XC,yf,Acr] at h;intro o' ho';rcases yL.1 ho' with rfl | ho'
   ·intro hd; rw[hd] at h; simp at h
   ·exact ih h.2 o' ho'
theorem Sk {ro:Option Nat} {nn:Nat} {c:Code} {Q Q':Exit->Act->World->Prop} (hq:∀ e a w,Q e a w->Q' e a w):∀ (n:Nat) (a:Act) (w:World),Code.roundsIn (FW ro) nn P c Q n a w->Code.roundsIn (FW ro) nn P c Q' n a w
 | 0,_,_,h=>h.elim
 | n+1,a,w,h=>by
   rw[roundsIn_succ] at h ⊢;refine Abn h fun e a1 w1 h1=>?_;cases e with
   | normal=>exact Sk hq n a1 w1 h1
   | _=>exact hq _ _ _ h1
theorem V7.mono_post {c:Code} {K:Cc->Bc->Aa->Option ρ} {r:ρ} {lo:Nat} {a:Act} {Z:Mu} {J:Aa} {w:World} {e:Exit} {a':Act} {w':World} {c2:Code} (h:ON P c K r lo a Z J w e a' w') (hd:∀ t,t ∉ NQ c2->t ∉ NQ c):ON P c2 K r lo a Z J w e a' w':=by
 obtain ⟨x,regs',J',Z',h1,h2,h3,h4,h5,h6,h7,h8⟩:=h;exact ⟨x,regs',J',Z',h1,h2,h3,h4,h5,h6,h7,fun t ht=>h8 t (hd t ht)⟩
theorem cg {ro:Option Nat} {nn:Nat} (hmix:P.follows .mixedOrders=true) {call:Gc} (hcall:TP P call) {fid:FuncId} {H:Hints} {n:Nat}:∀ (c:Code) {ρ:Type} {regs:Bc} {J:Aa} {K:Cc->Bc->Aa->Option ρ} {r:ρ},
  Rg P ro fid c->exec P call fid H n c ρ regs J K=some r->V7 ro nn P c regs J K r:=by
 intro c
 induction c with
 | skip=>
   intro ρ regs J K r hrg h;simp only[exec] at h;exact ⟨⟨_,_,_,h,yj _⟩,fun hi hhi lo a Z w hlo hR hfr hreg hdef=>wpIn_skip ⟨.normal,regs,J,Z,.normal,h,hR,Step.refl _ _ _,hreg,hdef,rfl,fun _ _=>rfl⟩⟩
 | region id ops draw=>
   intro ρ regs J K r hrg h;simp only[exec] at h;cases hdr:(draw && !Um P ops.toList (N7 P ops.toList draw)) with
   | true=>rw[hdr] at h; cases h
   | false=>
     rw[hdr] at h;simp only[By] at h;obtain ⟨regs',E',J',htr,hw,hl,hK⟩:=Pt hcall _ h (JO.refl _) rfl;refine ⟨⟨_,_,_,hK,htr.len.1⟩,fun hi hhi lo a Z w hlo hR hfr hreg hdef=>?_⟩;have hle:=hhi _ _ _ hK;cases draw with
     | true=>
       have hd:Um P ops.toList (N7 P ops.toList true)=true:=by simpa using hdr
       refine sf hmix htr hd hle a Z w hR hfr hreg ?_;intro a' Z' w' h1 h2 h3 h4 h5 h6;exact ⟨.normal,regs',J',Z',.normal,hK,h1,h2,h3.qW hw (by omega),(h4 ▸ hdef.step h2),h5,fun t ht=>h6 t (WR ht)⟩
     | false=>
       refine wpIn_region ?_;have:=vS (ro:=ro) (nn:=nn) (P:=P) (all:=ops) (Q:=ON P (.region id ops false) K r lo a Z J w) htr (by
        intro io hio;simp only[zK] at hio;obtain ⟨x,hx,rfl⟩:=hio;have:=zY.1 hx;simpa using this) hle a Z w hR hfr hreg (by
        intro a' Z' w' h1 h2 h3 h4 h5 h6;refine ⟨.normal,regs',J',Z',.normal,hK,h1,h2,h3.qW hw (by omega),(h4 ▸ hdef.step h2),h5,fun t ht=>h6 t ?_⟩;intro io hio;simp only[zK] at hio;obtain ⟨x,hx,rfl⟩:=hio;have:=zY.1 hx;exact WR ht _ (Aa4 this));have hm:(ops.toList.zipIdx.map fun x=>(x.2,x.1)).map (·.1)=List.range ops.size:=by
        rw[List.map_map];show ops.toList.zipIdx.map (fun x=>x.2)=_;simp[List.zipIdx_map_snd,List.range_eq_range']
       rw[hm] at this;exact this
 | seq x y ihx ihy=>
   intro ρ regs J K r hrg h;simp only[exec] at h;obtain ⟨⟨x1,regs1,J1_,hK1,hl1⟩,hwp⟩:=ihx hrg.seq.1 h;have hb:∀ (x:Cc) (regs':Bc) (J':Aa),(match x with
     | .normal=>exec P call fid H n y ρ regs' J' K
     | .exit id=>K (.exit id) regs' J'
     | .ret=>K .ret regs' J')=some r -> ∃ x2 regs2 J2_,K x2 regs2 J2_=some r/\J'.length<=J2_.length:=by
    intro x regs' J' hq;cases x with
    | normal=>exact (ihy hrg.seq.2 hq).1
    | exit id=>exact ⟨_,_,_,hq,yj _⟩
    | ret=>exact ⟨_,_,_,hq,yj _⟩
   refine ⟨?_,fun hi hhi lo a Z w hlo hR hfr hreg hdef=>?_⟩
   ·obtain ⟨x2,regs2,J2_,h1,h2⟩:=hb x1 regs1 J1_ hK1;exact ⟨x2,regs2,J2_,h1,zj hl1 h2⟩
   ·refine wpIn_seq (Abn (hwp hi (fun x' regs' J' hq=>?_) lo a Z w hlo hR hfr hreg hdef) ?_)
    ·obtain ⟨x2,regs2,J2_,h1,h2⟩:=hb x' regs' J' hq;exact zj h2 (hhi _ _ _ h1)
    ·rintro e a1 w1 ⟨x',regs',J',Z',hx,hq,g1,g2,g3,g4,g5,g6⟩;cases hx with
     | normal=>
       simp only[Exit.then];refine Abn ((ihy hrg.seq.2 hq).2 hi hhi lo a1 Z' w1 (zj hlo g2.size) g1 (hfr.step g2) g3 g4) ?_;rintro e2 a2 w2 ⟨x2,regs2,J2_,Z2_,k1,k2,k3,k4,k5,k6,k7,k8⟩;exact ⟨x2,regs2,J2_,Z2_,k1,k2,k3,g2.trans k4,k5,k6,k7.trans g5,fun t ht=>by
        simp only[NQ,yf,Acr] at ht;rw[k8 t ht.2,g6 t ht.1]⟩
     | exit id=>
       exact ⟨.exit id,regs',J',Z',.exit id,hq,g1,g2,g3,g4,g5,fun t ht=>g6 t (by simp only[NQ,yf,Acr] at ht; exact ht.1)⟩
     | ret=>
       exact ⟨.ret,regs',J',Z',.ret,hq,g1,g2,g3,g4,g5,fun t ht=>g6 t (by simp only[NQ,yf,Acr] at ht; exact ht.1)⟩
 | cond c x y ihx ihy=>
   intro ρ regs J K r hrg h;simp only[exec] at h;split at h;rotate_left
   ·cases h
   rename_i b hb;split at h
   ·
    cases b with
    | true=>
      simp only[IT] at h;obtain ⟨hlen,hwp⟩:=ihx hrg.cond.1 h;refine ⟨hlen,fun hi hhi lo a Z w hlo hR hfr hreg hdef=>?_⟩;have hc:=hreg.ev c _ hb;refine wpIn_cond_true (by generalize a.eval c=v at hc; cases hc; rfl) (Abn (hwp hi hhi lo a Z w hlo hR hfr hreg hdef) fun e a' w' hq=>V7.mono_post hq fun t ht=>by simp only[NQ,yf,Acr] at ht; exact ht.1)
    | false=>
      simp only[By] at h;obtain ⟨hlen,hwp⟩:=ihy hrg.cond.2 h;refine ⟨hlen,fun hi hhi lo a Z w hlo hR hfr hreg hdef=>?_⟩;have hc:=hreg.ev c _ hb;refine wpIn_cond_false (by generalize a.eval c=v at hc; cases hc; rfl) (Abn (hwp hi hhi lo a Z w hlo hR hfr hreg hdef) fun e a' w' hq=>V7.mono_post hq fun t ht=>by simp only[NQ,yf,Acr] at ht; exact ht.2)
   ·
    rename_i hint hH;simp only[IS] at h;obtain ⟨r1,h1,h2⟩:=h;have join:∀ (z:Code),(∀ t,t ∉ NQ (.seq x y)->t ∉ NQ z)->V7 ro nn P z regs J (pack hint.exits) r1 ->
      (∃ x' regs' J',K x' regs' J'=some r/\J.length<=J'.length) /\ ∀ hi,(∀ x' regs' J',K x' regs' J'=some r->J'.length<=hi) -> ∀ (lo:Nat) (a:Act) (Z:Mu) (w:World),lo<=w.heap.size->R P Z J w->GL Z J.length hi->Kx Z regs a.tmps->NT lo Z w a.defers->z.wpIn (FW ro) nn P (ON P (.cond c x y) K r lo a Z J w) a w:=by
     intro z hz ⟨⟨x1,regs1,J1_,hp1,hl1⟩,hwp⟩;refine ⟨?_,fun hi hhi lo a Z w hlo hR hfr hreg hdef=>?_⟩
     ·obtain ⟨regs2,g1,g2,g3⟩:=KT hp1 h2;exact ⟨x1,regs2,J1_,g1,hl1⟩
     ·refine Abn (hwp hi (fun x' regs' J' hq=>?_) lo a Z w hlo hR hfr hreg hdef) ?_
      ·obtain ⟨regs2,g1,_,_⟩:=KT hq h2;exact hhi _ _ _ g1
      ·rintro e a1 w1 ⟨x',regs',J',Z',hx,hq,g1,g2,g3,g4,g5,g6⟩;obtain ⟨regs2,k1,k2,k3⟩:=KT hq h2;have hle:Z.le Z':=g2.le (hfr.sub (yj _) (hhi _ _ _ k1));refine ⟨x',regs2,J',Z',hx,k1,g1,g2,⟨by rw[k2,g5]; exact hreg.1,fun t v hv=>?_⟩,g4,g5,fun t ht=>g6 t (hz t ht)⟩;rcases k3 t v hv with hv | ⟨ht,hv⟩
       ·exact g3.2 t v hv
       ·obtain ⟨v',q1,q2⟩:=hreg.2 t v hv;exact ⟨v',by rw[g6 t (hz t ht)]; exact q1,q2.mono hle⟩
    cases b with
    | true=>
      simp only[IT] at h1;obtain ⟨j1,j2⟩:=join x (fun t ht=>by simp only[NQ,yf,Acr] at ht; exact ht.1) (ihx hrg.cond.1 h1);refine ⟨j1,fun hi hhi lo a Z w hlo hR hfr hreg hdef=>?_⟩;have hc:=hreg.ev c _ hb;exact wpIn_cond_true (by generalize a.eval c=v at hc; cases hc; rfl) (j2 hi hhi lo a Z w hlo hR hfr hreg hdef)
    | false=>
      simp only[By] at h1;obtain ⟨j1,j2⟩:=join y (fun t ht=>by simp only[NQ,yf,Acr] at ht; exact ht.2) (ihy hrg.cond.2 h1);refine ⟨j1,fun hi hhi lo a Z w hlo hR hfr hreg hdef=>?_⟩;have hc:=hreg.ev c _ hb;exact wpIn_cond_false (by generalize a.eval c=v at hc; cases hc; rfl) (j2 hi hhi lo a Z w hlo hR hfr hreg hdef)
 | block id c ih=>
   intro ρ regs J K r hrg h;simp only[exec] at h;obtain ⟨⟨x1,regs1,J1_,hK1,hl1⟩,hwp⟩:=ih hrg h;have hb:∀ (x:Cc) (regs':Bc) (J':Aa),(match x with
     | .normal=>K .normal regs' J'
     | .exit id'=>if id'=id then K .normal regs' J' else K (.exit id') regs' J'
     | .ret=>K .ret regs' J')=some r -> ∃ x2,K x2 regs' J'=some r/\(∀ e,UD x e -> ∀ (Q:Exit->Act->World->Prop) a w,(∀ e2,UD x2 e2->Q e2 a w)->Exit.inBlock id Q e a w):=by
    intro x regs' J' hq;cases x with
    | normal=>exact ⟨_,hq,fun e he Q a w hQ=>by cases he; exact hQ _ .normal⟩
    | exit id'=>
      simp only at hq;split at hq
      ·rename_i hid;refine ⟨_,hq,fun e he Q a w hQ=>?_⟩;cases he;simp only[Exit.inBlock,hid,ye];exact hQ _ .normal
      ·rename_i hid;refine ⟨_,hq,fun e he Q a w hQ=>?_⟩;cases he;simp only[Exit.inBlock,hid,yq];exact hQ _ (.exit id')
    | ret=>exact ⟨_,hq,fun e he Q a w hQ=>by cases he; exact hQ _ .ret⟩
   refine ⟨?_,fun hi hhi lo a Z w hlo hR hfr hreg hdef=>?_⟩
   ·obtain ⟨x2,h2,_⟩:=hb x1 regs1 J1_ hK1;exact ⟨x2,regs1,J1_,h2,hl1⟩
   ·refine wpIn_block (Abn (hwp hi (fun x' regs' J' hq=>?_) lo a Z w hlo hR hfr hreg hdef) ?_)
    ·obtain ⟨x2,h2,_⟩:=hb x' regs' J' hq;exact hhi _ _ _ h2
    ·rintro e a1 w1 ⟨x',regs',J',Z',hx,hq,g1,g2,g3,g4,g5,g6⟩;obtain ⟨x2,h2,h3⟩:=hb x' regs' J' hq;exact h3 e hx _ a1 w1 fun e2 he2=>⟨x2,regs',J',Z',he2,h2,g1,g2,g3,g4,g5,g6⟩
 | loop c ih=>
   intro ρ regs J K r hrg h;simp only[exec] at h;split at h
   ·cases h
   rename_i hint hH;simp only[IS] at h;obtain ⟨r1,h1,h2⟩:=h;have rounds:∀ (m:Nat) (regs1:Bc) (J1_:Aa),WQ (fun regs J K=>exec P call fid H n c Bl regs J K) hint m regs1 J1_=some r1 ->
     (∃ x' regs',pack hint.exits x' regs' r1.2.2=some r1/\J1_.length<=r1.2.2.length) /\
     ∀ hi,r1.2.2.length<=hi -> ∀ (lo:Nat) (a:Act) (Z:Mu) (w:World),lo<=w.heap.size->R P Z J1_ w->GL Z J1_.length hi->Kx Z regs1 a.tmps->NT lo Z w a.defers ->
      Code.roundsIn (FW ro) nn P c (fun e a' w'=>∃ x' regs' Z',UD x' e/\x' ≠ .normal/\pack hint.exits x' regs' r1.2.2=some r1/\R P Z' r1.2.2 w'/\Step Z J1_ w Z' r1.2.2 w'/\Kx Z' regs' a'.tmps/\NT lo Z' w' a'.defers/\a'.tmps.size=a.tmps.size /\ ∀ t,t ∉ NQ c->a'.tmps[t]?=a.tmps[t]?) m a w:=by
    intro m
    induction m with
    | zero=>intro regs1 J1_ hq; cases hq
    | succ m ihm=>
      intro regs1 J1_ hq;simp only[WQ] at hq;obtain ⟨⟨x1,regs2,J2_,hK1,hl1⟩,hwp⟩:=ih hrg hq;have hpk:∀ (x:Cc) (regs':Bc) (J':Aa),pack hint.exits x regs' J'=some r1->J'=r1.2.2:=by
       intro x regs' J' hp;unfold pack at hp;simp only[IS] at hp;obtain ⟨outs,_,hp⟩:=hp;obtain ⟨vs,_,_,hk⟩:=Uw hp;cases hk; rfl
      have hb:∀ (x:Cc) (regs':Bc) (J':Aa),(match x with
        | .normal=>WQ (fun regs J K=>exec P call fid H n c Bl regs J K) hint m (Qi hint.live regs') J'
        | x=>pack hint.exits x regs' J')=some r1->J'.length<=r1.2.2.length:=by
       intro x regs' J' hq;cases x with
       | normal=>obtain ⟨_,_,_,hl⟩:=(ihm _ _ hq).1; exact hl
       | exit id=>rw[hpk _ _ _ hq]; exact yj _
       | ret=>rw[hpk _ _ _ hq]; exact yj _
      refine ⟨?_,fun hi hhi lo a Z w hlo hR hfr hreg hdef=>?_⟩
      ·cases x1 with
       | normal=>obtain ⟨x',regs',hp,hl⟩:=(ihm _ _ hK1).1; exact ⟨x',regs',hp,zj hl1 hl⟩
       | exit id=>have:=hpk _ _ _ hK1; subst this; exact ⟨_,_,hK1,hl1⟩
       | ret=>have:=hpk _ _ _ hK1; subst this; exact ⟨_,_,hK1,hl1⟩
      ·rw[roundsIn_succ];refine Abn (hwp hi (fun x' regs' J' hq=>zj (hb x' regs' J' hq) hhi) lo a Z w hlo hR hfr hreg hdef) ?_;rintro e a1 w1 ⟨x',regs',J',Z',hx,hq,g1,g2,g3,g4,g5,g6⟩;cases hx with
       | normal=>
         simp only[Exit.then];have:=(ihm _ _ hq).2 hi hhi lo a1 Z' w1 (zj hlo g2.size) g1 (hfr.step g2) (g3.qW (RU _ _) (by rw[OD]; exact yj _)) g4;refine Sk ?_ _ _ _ this;rintro e2 a2 w2 ⟨x2,regs2,Z2_,k1,k1',k2,k3,k4,k5,k6,k7,k8⟩;exact ⟨x2,regs2,Z2_,k1,k1',k2,k3,g2.trans k4,k5,k6,k7.trans g5,fun t ht=>by rw[k8 t ht,g6 t ht]⟩
       | exit id=>
         have:=hpk _ _ _ hq; subst this;exact ⟨.exit id,regs',Z',.exit id,by simp,hq,g1,g2,g3,g4,g5,g6⟩
       | ret=>
         have:=hpk _ _ _ hq; subst this;exact ⟨.ret,regs',Z',.ret,by simp,hq,g1,g2,g3,g4,g5,g6⟩
   obtain ⟨⟨x1,regs1,hp1,hl1⟩,hwp⟩:=rounds n _ _ h1;refine ⟨?_,fun hi hhi lo a Z w hlo hR hfr hreg hdef=>?_⟩
   ·obtain ⟨regs2,g1,_,_⟩:=KT hp1 h2;exact ⟨x1,regs2,_,g1,hl1⟩
   ·obtain ⟨regs2',g1',_,_⟩:=KT hp1 h2;have hle':=hhi _ _ _ g1';refine wpIn_loop_rounds n (Sk ?_ _ _ _ (hwp hi hle' lo a Z w hlo hR hfr (hreg.qW (RU _ _) (by rw[OD]; exact yj _)) hdef));rintro e a1 w1 ⟨x',regs',Z',hx,_,hq,g1,g2,g3,g4,g5,g6⟩;obtain ⟨regs2,k1,k2,k3⟩:=KT hq h2;have hle:Z.le Z':=g2.le (hfr.sub (yj _) hle');refine ⟨x',regs2,_,Z',hx,k1,g1,g2,⟨by rw[k2,g5]; exact hreg.1,fun t v hv=>?_⟩,g4,g5,g6⟩;rcases k3 t v hv with hv | ⟨ht,hv⟩
    ·exact g3.2 t v hv
    ·obtain ⟨v',q1,q2⟩:=hreg.2 t v hv;exact ⟨v',by rw[g6 t ht]; exact q1,q2.mono hle⟩
 | exit id=>
   intro ρ regs J K r hrg h;simp only[exec] at h;exact ⟨⟨_,_,_,h,yj _⟩,fun hi hhi lo a Z w hlo hR hfr hreg hdef=>wpIn_exit ⟨.exit id,regs,J,Z,.exit id,h,hR,Step.refl _ _ _,hreg,hdef,rfl,fun _ _=>rfl⟩⟩
 | ret=>
   intro ρ regs J K r hrg h;simp only[exec] at h;exact ⟨⟨_,_,_,h,yj _⟩,fun hi hhi lo a Z w hlo hR hfr hreg hdef=>wpIn_ret ⟨.ret,regs,J,Z,.ret,h,hR,Step.refl _ _ _,hreg,hdef,rfl,fun _ _=>rfl⟩⟩
 | label l=>
   intro ρ regs J K r hrg h;simp only[exec] at h;exact ⟨⟨_,_,_,h,yj _⟩,fun hi hhi lo a Z w hlo hR hfr hreg hdef=>wpIn_label ⟨.normal,regs,J,Z,.normal,h,hR,Step.refl _ _ _,hreg,hdef,rfl,fun _ _=>rfl⟩⟩
 | scope c ih=>
   intro ρ regs J K r hrg h;simp only[exec] at h;obtain ⟨h1,h2⟩:=ih hrg h;exact ⟨h1,fun hi hhi lo a Z w hlo hR hfr hreg hdef=>j7 (Abn (h2 hi hhi lo a Z w hlo hR hfr hreg hdef) fun e a w hq=>⟨(by
    obtain ⟨x,_,_,_,hx,_⟩:=hq;rintro l rfl; cases hx),hq⟩)⟩
 | rangeFunc g ps asg body _ _=>
   intro ρ regs J K r hrg h;obtain ⟨x,hrx,hro⟩:=hrg;obtain ⟨rfl,F,cb,hF,hcb,hth⟩:=hro (by simp only[ranges]; omega);cases hrx;simp only[exec] at h;split at h;rotate_left
   ·cases h
   rename_i gv hint hgv hH;cases hfn:fc gv with
   | false=>rw[hfn] at h; cases h
   | true=>
   rw[hfn] at h;obtain ⟨f,first,cap,rfl⟩:=mw hfn;simp only[IT,Lc] at h;obtain ⟨⟨v,J2_⟩,hcl,h⟩:=IS.1 h;obtain ⟨hny,hcl⟩:=cq hcl;obtain ⟨hlen,_,⟨F2,hF2,hbody,hname⟩,hcalls⟩:=hcall.fn _ _ _ _ _ hny hcl;obtain ⟨f',st,regs',x,hs2,hK,hx⟩:=ZU h;obtain ⟨_,_,hK⟩:=St hK;have hl2:J.length<=(J2_.set J.length .dead).length:=by simp at hlen ⊢; omega
   refine ⟨⟨_,_,_,hK,hl2⟩,fun hi hhi lo a Z w hlo hR hfr hreg hdef=>?_⟩;have hhi2:J2_.length<=hi:=by have:=hhi _ _ _ hK; simpa using this
   have hrf:=hreg.ev g _ hgv;generalize hag:a.eval g=ag at hrf;cases hrf with
   | @func _ _ first' _ cap' hny' h1' h2'=>
   refine wpIn_rangeFunc fun fn _=>?_;have hle1:lo<=w.heap.size:=hlo;have hR1:=(hR.extra (.deferred (some []))).alloc (o:=.loop fid .ready (Qi hint.live regs)) (x:=.loop { state:=.ready,pending:=none,fn,tmps:=a.tmps,params:=ps,assign:=asg,body,defers:=w.heap.size })
    (k:=⟨w.heap.size+1,0,0,0,0⟩) (hfr _ (yj _) (by simp at hlen; omega)) (by simp) (by
     refine ⟨_,rfl,⟨F,cb,hF,hcb,hth⟩, ?_,rfl,rfl⟩;exact (hreg.qW (RU _ _) (by rw[OD]; exact yj _)));have hS1:Step Z J w (Z.put J.length ⟨w.heap.size+1,0,0,0,0⟩) (J++[.loop fid .ready (Qi hint.live regs)])
     (qh w fn a.tmps ps asg body):=
    (Step.extra (.deferred (some []))).trans (Step.alloc (by simp));have hfr1:GL (Z.put J.length ⟨w.heap.size+1,0,0,0,0⟩) (J++[Au.loop fid .ready (Qi hint.live regs)]).length hi:=hfr.step hS1;have hm1:NT lo (Z.put J.length ⟨w.heap.size+1,0,0,0,0⟩) (qh w fn a.tmps ps asg body)
     ([{ target:=.collected w.heap.size,args:=#[] }]++a.defers):=by
    have hold:=hdef.step hS1;refine ⟨fun d hd=>?_, ?_⟩
    ·rcases yf.1 hd with hd | hd
     ·simp only[yP] at hd;subst hd;refine ⟨w.heap.size,rfl,hlo,by simp; omega, ?_,fun i k hk=>?_⟩
      ·rw[heap_alloc_old (by simp)]; exact heap_alloc_new w _
      ·by_cases hi':i=J.length
       ·subst hi'; rw[Mu.Fl] at hk; cases hk; simp
       ·rw[Mu.F4 Z _ hi'] at hk;have:=hR.lt _ _ hk; omega
     ·exact hold.1 d hd
    ·rw[Abt,Aa9];refine ⟨fun hin=>?_,hdef.2⟩;obtain ⟨b,hb,_,hlt,_⟩:=hdef.1 _ hin;simp only[Deferred.mk.injEq,Target.collected.injEq,and_true] at hb;omega
   refine ⟨_,_,qh w fn a.tmps ps asg body,{ target:=.fn (.func f) cap',args:=first' ++ #[.func (.yield (w.heap.size+1)) #[] #[]] },qh w fn a.tmps ps asg body,f,first' ++ #[.func (.yield (w.heap.size+1)) #[] #[]]++cap',qh w fn a.tmps ps asg body,run_enterLoop_outer fn a.tmps ps asg body, ?_,fun _ _=>trivial, ?_,fun hh=>(by cases hh), ?_⟩
   ·have he:∀ v,a.eval (.const v)=v:=fun _=>rfl;simp only[resolve,rangeCall,hag,Deferred.ofValue,zf,Array.map_singleton,List.map_toArray,zD,List.map_nil,he]
   ·have hb:F2.body.isNone=false:=by cases hq:F2.body <;> simp_all
    simp only[invoke,callFunc,za,run_program,y9,hF2,hname,hb,y8,yq,zf]
   ·have hc:=hcalls _ _ (first' ++ #[.func (.yield (w.heap.size+1)) #[] #[]]++cap') hR1 (hfr1.sub (yj _) hhi2) (by
     have hle:Z.le (Z.put J.length ⟨w.heap.size+1,0,0,0,0⟩):=hS1.le (hfr.sub (yj _) (by simp at hlen ⊢; omega));have hy:It (Z.put J.length ⟨w.heap.size+1,0,0,0,0⟩) [Value.func (.yield J.length) #[] #[]] [.func (.yield (w.heap.size+1)) #[] #[]]:=.cons (.yield (k:=⟨w.heap.size+1,0,0,0,0⟩) (Mu.Fl _ _ _)) .nil;simpa using ((h1'.mono hle).append hy).append (h2'.mono hle));refine (jO hc).mono ?_;rintro e' w2 ⟨Z2_,v',rfl,g1,g2,g3⟩;have hk2:Z2_ J.length=some ⟨w.heap.size+1,0,0,0,0⟩:=by
     rw[g3.mu _ (.inl (by simp))]; exact Mu.Fl _ _ _
    obtain ⟨r2,hr2,hlr⟩:=g2.obj _ _ _ hs2 hk2;obtain ⟨_,hreg2,hst⟩:=hlr;have hnb:r2.state ≠ .busy:=by
     rcases hx with ⟨rfl,_⟩ | ⟨rfl,_⟩
     ·rw[hst.1]; decide
     ·rw[hst.1]; decide
    obtain ⟨hR3,hS3⟩:=g2.record hk2 hs2 (o:=.dead) (x:=.loop { r2 with state:=.exhausted }) trivial;have hS:=(hS1.trans g3).trans hS3;have hle3:Z.le Z2_:=hS.le (hfr.sub (yj _) (by simpa using hhi2));have post:∀ e,UD x e->ON P (.rangeFunc g ps asg body) K r lo a Z J w e { a with defers:=[{ target:=.collected w.heap.size,args:=#[] }]++a.defers } (w2.putObj (w.heap.size+1) (.loop { r2 with state:=.exhausted })):=fun e he=>
     ⟨x,regs,_,Z2_,he,hK,hR3,hS,hreg.mono hle3,(hm1.step g3).step hS3,rfl,fun _ _=>rfl⟩;refine ⟨_,_,run_endLoop hr2 hnb, ?_⟩;generalize w2.putObj (w.heap.size+1) (.loop { r2 with state:=.exhausted })=w4 at post ⊢;rcases hx with ⟨rfl,rfl⟩ | ⟨rfl,hne⟩
    ·rw[hst.2]; exact post _ .normal
    ·rw[hst.2];cases x with
     | normal=>exact absurd rfl hne
     | exit id=>exact wpIn_exit (post _ (.exit id))
     | ret=>exact wpIn_ret (post _ .ret)
 | _=>intros; rename_i h; simp only[exec] at h; cases h
end
end Go.AX
