/- Part 3. -/
import Derived.LoopNIn
import Derived.RangeFuncRecord
import Derived.LoopN
import Derived.Test.YtjbledomkmdkmaaGreatP2
set_option linter.unusedVariables false
set_option linter.unusedSimpArgs false
set_option linter.unusedSectionVars false
namespace Go.AX
open Go
noncomputable section
variable {ρ:Type} {P:Program} [AJ]
theorem W1 {regs:Bo} {r:Bq}:∀ {os:List (Nat × Kd)} {K:List Value->Option Bq},cU regs os K=some r -> ∃ a,a.length=os.length/\(∀ (j:Nat) t k,os[j]?=some (t,k)->regs.getD t none=a[j]?)/\K a=some r
 | [],K,h=>⟨[],rfl,by simp,h⟩
 | (t,k)::os,K,h=>by
   simp only[cU,Aai] at h;obtain ⟨v,e,h⟩:=h;obtain ⟨a,h1,c,d⟩:=W1 h;refine ⟨v::a,by simp[h1], ?_,d⟩;intro j t' f b;cases j with
   | zero=>simp at b; obtain ⟨rfl,rfl⟩:=b; simpa using e
   | succ j=>simpa using c j t' f (by simpa using b)
theorem U5:∀ {os:List (Nat × Kd)} {vs:List Value} {regs:Bo},(YO os vs regs).length=regs.length /\
  ∀ (t:Nat) (v:Value),(YO os vs regs).getD t none=some v->(∃ (j:Nat) (k:Kd),os[j]?=some (t,k)/\vs[j]?=some v)\/regs.getD t none=some v
 | [],vs,regs=>⟨by cases vs <;> rfl,fun t v h=>.inr (by cases vs <;> exact h)⟩
 | (t0,c)::os,[],regs=>⟨rfl,fun t v h=>.inr h⟩
 | (t0,c)::os,v0::vs,regs=>by
   obtain ⟨h1,d⟩:=U5 (os:=os) (vs:=vs) (regs:=regs.set t0 (some v0));refine ⟨by simp only[YO]; rw[h1]; simp,fun t v h=>?_⟩;simp only[YO] at h;rcases d t v h with ⟨j,k,a,b⟩ | h
   ·exact .inl ⟨j+1,k,by simpa using a,by simpa using b⟩
   ·rw[JX] at h;split at h
    ·rename_i e;cases h;exact .inl ⟨0,c,by rw[e.1]; rfl,rfl⟩
    ·exact .inr h
theorem Yu:∀ {ts:List Nat} {regs:Bo},(forget.go ts regs).length=regs.length /\ ∀ (t:Nat) (v:Value),(forget.go ts regs).getD t none=some v->t ∉ ts/\regs.getD t none=some v
 | [],regs=>⟨rfl,fun t v h=>⟨by simp,h⟩⟩
 | t0::ts,regs=>by
   obtain ⟨h1,d⟩:=Yu (ts:=ts) (regs:=regs.set t0 none);refine ⟨by simp only[forget.go]; rw[h1]; simp,fun t v h=>?_⟩;obtain ⟨b,a⟩:=d t v h;rw[JX] at a;split at a
   ·cases a
   ·rename_i e;refine ⟨?_,a⟩;rw[Acd];rintro (rfl | c)
    ·have:t<regs.length:=by
      rcases Ael t regs.length with h | h
      ·exact h
      ·rw[Aax,Adr h] at a; cases a
     exact e ⟨rfl,this⟩
    ·exact b c
theorem UB {x:CA} {K:CA->List (Nat × Kd)->Option ρ} {r:ρ}:∀ {es:List (CA × List (Nat × Kd))},WK x K es=some r -> ∃ outs,iQ x es=some outs/\K x outs=some r
 | [],h=>by cases h
 | e::es,h=>by
   simp only[WK] at h;simp only[iQ];split at h
   ·rename_i a;rw[Aay a];rw[a];exact ⟨e.2,rfl,h⟩
   ·rename_i a;rw[Aaz a];exact UB h
theorem Mn {h:Hint} {c:Code} {regs b:Bo} {x:CA} {J':Aa} {l:Bq} {K:CA->Bo->Aa->Option ρ} {r:ρ} (hp:pack h.exits x b J'=some l) (hu:unpack h c regs l K=some r):
  ∃ a,K x a J'=some r/\a.length=regs.length /\ ∀ (t:Nat) (v:Value),a.getD t none=some v->b.getD t none=some v\/(t ∉ P9 c/\regs.getD t none=some v):=by
 unfold pack at hp;simp only[Aai] at hp;obtain ⟨outs,q,hp⟩:=hp;obtain ⟨u,p,s,o⟩:=W1 hp;cases o;unfold unpack at hu;obtain ⟨i,d,hu⟩:=UB hu;simp only at d;rw[q] at d; cases d;obtain ⟨h1,e⟩:=XR hu;simp only at e;rw[Aeo,<- p,Ah4] at e;refine ⟨_,e, ?_,fun t v f=>?_⟩
 ·rw[U5.1]; exact Yu.1
 ·rcases U5.2 t v f with ⟨j,k,m,n⟩ | g
  ·left; rw[s j t k m]; exact n
  ·right; exact Yu.2 t v g
theorem Qv {live:List Nat}:∀ {regs:Bo} {i:Nat},(Pg live i regs).length=regs.length /\ ∀ (t:Nat) (v:Value),(Pg live i regs).getD t none=some v->regs.getD t none=some v
 | [],i=>⟨rfl,fun t v h=>h⟩
 | r::rs,i=>by
   obtain ⟨h1,a⟩:=Qv (live:=live) (regs:=rs) (i:=i+1);refine ⟨by simp[Pg,h1],fun t v h=>?_⟩;cases t with
   | zero=>
     simp only[Pg,List.getD_cons_zero] at h ⊢;split at h
     ·exact h
     ·cases h
   | succ t=>
     simp only[Pg,List.getD_cons_succ] at h ⊢;exact a t v h
theorem Uo (live:List Nat) (regs:Bo):Lj regs (RY live regs):=fun t v h=>Qv.2 t v h
theorem Qw (live:List Nat) (regs:Bo):(RY live regs).length=regs.length:=Qv.1
inductive WM:CA->Exit->Prop
 | normal:WM .normal .normal
 | exit (id:Nat):WM (.exit id) (.exit id)
 | ret:WM .ret .ret
def PB (lo:Nat) (Z:Mu) (w:World) (a:List Deferred):Prop:=
 (∀ d ∈ a,∃ b,d={ target:=.collected b,args:=#[] }/\lo<=b/\b<w.heap.size/\w.heap[b]?=some (.deferred (some [])) /\ ∀ h k,Z h=some k->k.b≠b)/\a.Nodup
theorem PB.nil (lo:Nat) (Z:Mu) (w:World):PB lo Z w []:=⟨fun d hd=>by simp at hd,List.nodup_nil⟩
theorem PB.step {lo:Nat} {Z f:Mu} {J J':Aa} {w w':World} {g:List Deferred} (h:PB lo Z w g) (s:Step Z J w f J' w'):PB lo f w' g:=by
 refine ⟨fun d hd=>?_,h.2⟩;obtain ⟨b,hb,h1,j,l,c⟩:=h.1 d hd;refine ⟨b,hb,h1,Acp j s.size, ?_,fun i k a=>?_⟩
 ·rw[s.frame b j fun i k _ a he=>absurd he (c i k a)]; exact l
 ·by_cases hi:i<J.length\/J'.length<=i
  ·rw[s.mu i hi] at a; exact c i k a
  ·rcases s.new i k (by omega) (by omega) a with n | ⟨h0,m,_,e,he,_⟩
   ·omega
   ·rw[<- he]; exact c h0 m e
def dX (x:Array Tmp × Code × Code):Code->Prop
 | .seq a b=>dX x a/\dX x b
 | .cond _ a b=>dX x a/\dX x b
 | .block _ c=>dX x c
 | .loop c=>dX x c
 | .scope c=>dX x c
 | .rangeFunc _ d a b=>(d,a,b)=x
 | _=>True
theorem OC {x:Array Tmp × Code × Code}:∀ {c:Code},Cy c=none->dX x c:=by
 intro c
 induction c with
 | seq a b d e=>
   intro h;simp only[Cy] at h;split at h
   ·cases h
   ·rename_i h1; exact ⟨d h1,e h⟩
 | cond _ a b d e=>
   intro h;simp only[Cy] at h;split at h
   ·cases h
   ·rename_i h1; exact ⟨d h1,e h⟩
 | block _ c f=>intro h; exact f h
 | loop c f=>intro h; exact f h
 | scope c f=>intro h; exact f h
 | rangeFunc=>intro h; cases h
 | _=>intro _; trivial
theorem NP:∀ {c:Code},ranges c=0->Cy c=none:=by
 intro c
 induction c with
 | seq a b d e=>
   intro h;simp only[ranges] at h;simp only[Cy,d (by omega),e (by omega)]
 | cond _ a b d e=>
   intro h;simp only[ranges] at h;simp only[Cy,d (by omega),e (by omega)]
 | block _ c f=>intro h; exact f h
 | loop c f=>intro h; exact f h
 | scope c f=>intro h; exact f h
 | rangeFunc=>intro h; simp[ranges] at h
 | _=>intro _; rfl
theorem lK:∀ {c:Code},Cy c=none->ranges c=0:=by
 intro c
 induction c with
 | seq a b d e=>
   intro h;simp only[Cy] at h;split at h
   ·cases h
   ·rename_i h1; simp only[ranges,d h1,e h]
 | cond _ a b d e=>
   intro h;simp only[Cy] at h;split at h
   ·cases h
   ·rename_i h1; simp only[ranges,d h1,e h]
 | block _ c f=>intro h; exact f h
 | loop c f=>intro h; exact f h
 | scope c f=>intro h; exact f h
 | rangeFunc=>intro h; cases h
 | _=>intro _; rfl
theorem vH {x:Array Tmp × Code × Code}:∀ {c:Code},ranges c<=1->Cy c=some x->dX x c:=by
 intro c
 induction c with
 | seq a b d e=>
   intro h g;simp only[ranges] at h;simp only[Cy] at g;split at g
   ·rename_i y h1;cases g;have:ranges a≠0:=fun h0=>by rw[NP h0] at h1; cases h1
    exact ⟨d (by omega) h1,OC (NP (by omega))⟩
   ·rename_i h1; exact ⟨OC h1,e (by omega) g⟩
 | cond _ a b d e=>
   intro h g;simp only[ranges] at h;simp only[Cy] at g;split at g
   ·rename_i y h1;cases g;have:ranges a≠0:=fun h0=>by rw[NP h0] at h1; cases h1
    exact ⟨d (by omega) h1,OC (NP (by omega))⟩
   ·rename_i h1; exact ⟨OC h1,e (by omega) g⟩
 | block _ c f=>intro h g; exact f h g
 | loop c f=>intro h g; exact f h g
 | scope c f=>intro h g; exact f h g
 | rangeFunc=>intro h g; simp only[Cy,Aeq] at g; exact g
 | _=>intro _ g; cases g
theorem mG {x:Array Tmp × Code × Code}:∀ {c:Code},Cy c=some x->ranges x.2.1+ranges x.2.2+1<=ranges c:=by
 intro c
 induction c with
 | seq a b d e=>
   intro g;simp only[Cy] at g;simp only[ranges];split at g
   ·rename_i y h1; cases g; have:=d h1; omega
   ·have:=e g; omega
 | cond _ a b d e=>
   intro g;simp only[Cy] at g;simp only[ranges];split at g
   ·rename_i y h1; cases g; have:=d h1; omega
   ·have:=e g; omega
 | block _ c f=>intro g; exact f g
 | loop c f=>intro g; exact f g
 | scope c f=>intro g; exact f g
 | rangeFunc=>intro g; simp only[Cy,Aeq] at g; subst g; exact Aa1 _
 | _=>intro g; cases g
def Rg (P:Program) (ro:Option Nat) (fid:FuncId) (c:Code):Prop:=
 ∃ x,dX x c/\(ranges c≠0->ro=none /\ ∃ F a,P.funcs[fid]?=some F/\F.body=some a/\Cy a=some x)
theorem Rg.zero {ro:Option Nat} {fid:FuncId} {c:Code} (h:ranges c=0):Rg P ro fid c:=⟨default,OC (NP h),fun a=>absurd h a⟩
theorem Rg.seq {ro:Option Nat} {fid:FuncId} {a b:Code} (h:Rg P ro fid (.seq a b)):Rg P ro fid a/\Rg P ro fid b:=by
 obtain ⟨x,h1,c⟩:=h;exact ⟨⟨x,h1.1,fun d=>c (by simp only[ranges]; omega)⟩,⟨x,h1.2,fun d=>c (by simp only[ranges]; omega)⟩⟩
theorem Rg.cond {ro:Option Nat} {fid:FuncId} {c:Operand} {a b:Code} (h:Rg P ro fid (.cond c a b)):Rg P ro fid a/\Rg P ro fid b:=by
 obtain ⟨x,h1,d⟩:=h;exact ⟨⟨x,h1.1,fun e=>d (by simp only[ranges]; omega)⟩,⟨x,h1.2,fun e=>d (by simp only[ranges]; omega)⟩⟩
theorem R.extra {Z:Mu} {J:Aa} {w:World} (h:R P Z J w) (x:Obj):R P Z J (w.alloc x):=
 ⟨fun i o k b a=>by rw[heap_alloc_old (h.lt i k a)]; exact h.obj i o k b a,fun i k a=>Acp (h.lt i k a) (by simp),h.inj⟩
theorem Step.extra {Z:Mu} {J:Aa} {w:World} (x:Obj):Step Z J w Z J (w.alloc x):=
 ⟨Aa1 _,fun _ _=>rfl,fun _ _ h=>h,fun h k h1 a=>absurd a (by omega),by simp,rfl,rfl,rfl,fun b hb _=>heap_alloc_old hb⟩
theorem eU {J:Aa} {h:Nat} {f:FuncId} {st:yw} {regs:Bo} (hs:J[h]?=some (.loop f st regs)):AK J h:=by
 unfold AK; rw[hs]; trivial
theorem R.record {Z:Mu} {J:Aa} {w:World} (e:R P Z J w) {h:Nat} {k:YR} (c:Z h=some k) {f:FuncId} {st:yw} {regs:Bo} (hs:J[h]?=some (.loop f st regs)) {o:Au} {x:Obj} (g:dW P Z o k (some x)):
  R P Z (J.set h o) (w.putObj k.b x)/\Step Z J w Z (J.set h o) (w.putObj k.b x):=by
 have hw:=eU hs;have d:=e.lt _ _ c;have a:∀ b,b≠k.b->(w.putObj k.b x).heap[b]?=w.heap[b]?:=fun b hb=>World.putObj_heap_other hb;refine ⟨e.yo c ⟨_,hs,by simp⟩ hw (by simp) a (by rw[World.putObj_heap_same d]; exact g),Step.yo c (Ab6.1 hs).1 hw (by simp) rfl rfl rfl a⟩
theorem eK {h:Nat} {J:Aa} {K:CA->Aa->Option ρ} {r:ρ} (b:Pb h J K=some r):
  ∃ f st a x,J[h]?=some (.loop f st a)/\K x (J.set h .dead)=some r/\((st = .ready/\x = .normal)\/(st = .done x/\x ≠ .normal)):=by
 unfold Pb at b;split at b
 ·rename_i hs; exact ⟨_,_,_,_,hs,b,.inl ⟨rfl,rfl⟩⟩
 ·rename_i f y a hs;split at b
  ·cases b
  ·rename_i c;exact ⟨_,_,_,_,hs,b,.inr ⟨rfl,c⟩⟩
 ·cases b
theorem sd {v:Value} (h:kK v=true):∃ f a b,v = .func (.func f) a b:=by
 unfold kK at h;split at h
 ·exact ⟨_,_,_,rfl⟩
 ·cases h
abbrev vD (w:World) (fn:FuncId) (tmps:Array Value) (ps:Array Tmp) (asg body:Code):World:=
 (w.alloc (.deferred (some []))).alloc (.loop { state:=.ready,pending:=none,fn,tmps,params:=ps,assign:=asg,body,defers:=w.heap.size })
theorem Mm {b:Frame} {a:Act} {k:List Item} {cs:List Frame} {w:World} {c:Code}:step P (lone (b.atR a (.code (.scope c)::k)) cs w) = .next (lone (b.atR a (.code c :: .inScope c::k)) cs w):=
 step_lone_go (by simp[stepG,stepG.exec,Frame.atR])
theorem fb {b:Frame} {a:Act} {k:List Item} {cs:List Frame} {w:World} {c:Code}:step P (lone (b.atR a (.inScope c::k)) cs w) = .next (lone (b.atR a k) cs w):=
 step_lone_go (by simp[stepG,stepG.exec,Frame.atR])
theorem oV {F:Fence} {n:Nat} {c:Code} {Q:Exit->Act->World->Prop} {a:Act} {w:World} (h:c.wpIn F n P (fun e a w=>(∀ l,e ≠ .goto l)/\Q e a w) a w):(Code.scope c).wpIn F n P Q a w:=by
 intro b k cs o hb m;have h0:(lone (b.atR a (.code (.scope c)::k)) cs w).fenced P F:=fenced_calm hb m rfl;obtain ⟨e,f,i,⟨r,g⟩,d⟩:=h b (.inScope c::k) cs o hb m;cases e with
 | normal=>exact ⟨.normal,f,i,g,.head h0 Mm (StepsIn.trans d (.one (fenced_calm hb m rfl) fb))⟩
 | exit id=>
   have p:exitTo id (.inScope c::k)=exitTo id k:=by simp[exitTo]
   exact ⟨.exit id,f,i,g,fun s j=>.head h0 Mm (d.1 s (by rw[p]; exact j)),fun hs j=>let ⟨k₁,h1,q⟩:=d.2 hs (by rw[p]; exact j); ⟨k₁,h1,.head h0 Mm q⟩⟩
 | goto l=>exact absurd rfl (r l)
 | ret=>exact ⟨_,f,i,g,.of_steps (.one h0 Mm) d⟩
 | panic t=>exact ⟨_,f,i,g,.of_steps (.one h0 Mm) d⟩
 | outgrown=>exact ⟨_,f,i,g,.of_steps (.one h0 Mm) d⟩
def Q5 (P:Program) (c:Code) (K:CA->Bo->Aa->Option ρ) (r:ρ) (lo:Nat) (a:Act) (Z:Mu) (J:Aa) (w:World) (e:Exit) (f:Act) (w':World):Prop:=
 ∃ x b J' d,WM x e/\K x b J'=some r/\R P d J' w'/\Step Z J w d J' w'/\LO d b f.tmps/\PB lo d w' f.defers/\f.tmps.size=a.tmps.size /\ ∀ t,t ∉ P9 c->f.tmps[t]?=a.tmps[t]?
def XM (ro:Option Nat) (nn:Nat) (P:Program) (c:Code) (regs:Bo) (J:Aa) (K:CA->Bo->Aa->Option ρ) (r:ρ):Prop:=
 (∃ x b J',K x b J'=some r/\J.length<=J'.length) /\
 ∀ hi,(∀ x b J',K x b J'=some r->J'.length<=hi) -> ∀ (lo:Nat) (a:Act) (Z:Mu) (w:World),lo<=w.heap.size->R P Z J w->H8 Z J.length hi->LO Z regs a.tmps->PB lo Z w a.defers->c.wpIn (FW ro) nn P (Q5 P c K r lo a Z J w) a w
theorem Zx {l:List Oper} {t:Nat} (h:t ∉ an l):∀ o ∈ l,o.dst≠some t:=by
 induction l with
 | nil=>simp
 | cons o l b=>
   simp only[an,Aas,Ahh] at h;intro o' a;rcases Acd.1 a with rfl | a
   ·intro hd; rw[hd] at h; simp at h
   ·exact b h.2 o' a
theorem U2 {ro:Option Nat} {nn:Nat} {c:Code} {Q b:Exit->Act->World->Prop} (d:∀ e a w,Q e a w->b e a w):∀ (n:Nat) (a:Act) (w:World),Code.roundsIn (FW ro) nn P c Q n a w->Code.roundsIn (FW ro) nn P c b n a w
 | 0,_,_,h=>h.elim
 | n+1,a,w,h=>by
   rw[roundsIn_succ] at h ⊢;refine Agi h fun e f g h1=>?_;cases e with
   | normal=>exact U2 d n f g h1
   | _=>exact d _ _ _ h1
theorem XM.mono_post {c:Code} {K:CA->Bo->Aa->Option ρ} {r:ρ} {lo:Nat} {a:Act} {Z:Mu} {J:Aa} {w:World} {e:Exit} {d:Act} {w':World} {f:Code} (h:Q5 P c K r lo a Z J w e d w') (hd:∀ t,t ∉ P9 f->t ∉ P9 c):Q5 P f K r lo a Z J w e d w':=by
 obtain ⟨x,b,J',g,h1,i,j,k,h5,l,m,h8⟩:=h;exact ⟨x,b,J',g,h1,i,j,k,h5,l,m,fun t n=>h8 t (hd t n)⟩
theorem iH {ro:Option Nat} {nn:Nat} (a7:P.follows .mixedOrders=true) {call:GK} (ad:VQ P call) {fid:FuncId} {H:Hints} {n:Nat}:∀ (c:Code) {ρ:Type} {s:Bo} {J:Aa} {K:CA->Bo->Aa->Option ρ} {r:ρ},
  Rg P ro fid c->exec P call fid H n c ρ s J K=some r->XM ro nn P c s J K r:=by
 intro c
 induction c with
 | skip=>
   intro ρ s J K r G h;simp only[exec] at h;exact ⟨⟨_,_,_,h,Aa1 _⟩,fun hi B lo a Z w C L A p q=>wpIn_skip ⟨.normal,s,J,Z,.normal,h,L,Step.refl _ _ _,p,q,rfl,fun _ _=>rfl⟩⟩
 | region id ops draw=>
   intro ρ s J K r G h;simp only[exec] at h;cases au:(draw && !Wr P ops.toList (Pj P ops.toList draw)) with
   | true=>rw[au] at h; cases h
   | false=>
     rw[au] at h;simp only[By] at h;obtain ⟨j,E',J',ay,hw,hl,hK⟩:=Rf ad _ h (Lj.refl _) rfl;refine ⟨⟨_,_,_,hK,ay.len.1⟩,fun hi B lo a Z w C L A p q=>?_⟩;have hle:=B _ _ _ hK;cases draw with
     | true=>
       have hd:Wr P ops.toList (Pj P ops.toList true)=true:=by simpa using au
       refine xz a7 ay hd hle a Z w L A p ?_;intro a' S w' h1 O h3 h4 h5 h6;exact ⟨.normal,j,J',S,.normal,hK,h1,O,h3.w8 hw (by omega),(h4 ▸ q.step O),h5,fun t I=>h6 t (Zx I)⟩
     | false=>
       refine wpIn_region ?_;have:=Ab0 (ro:=ro) (nn:=nn) (P:=P) (all:=ops) (Q:=Q5 P (.region id ops false) K r lo a Z J w) ay (by
        intro io ae;simp only[Aeb] at ae;obtain ⟨x,hx,rfl⟩:=ae;have:=Aez.1 hx;simpa using this) hle a Z w L A p (by
        intro a' S w' h1 O h3 h4 h5 h6;refine ⟨.normal,j,J',S,.normal,hK,h1,O,h3.w8 hw (by omega),(h4 ▸ q.step O),h5,fun t I=>h6 t ?_⟩;intro io ae;simp only[Aeb] at ae;obtain ⟨x,hx,rfl⟩:=ae;have:=Aez.1 hx;exact Zx I _ (Afx this));have hm:(ops.toList.zipIdx.map fun x=>(x.2,x.1)).map (·.1)=List.range ops.size:=by
        rw[List.map_map];show ops.toList.zipIdx.map (fun x=>x.2)=_;simp[List.zipIdx_map_snd,List.range_eq_range']
       rw[hm] at this;exact this
 | seq x y an af=>
   intro ρ s J K r G h;simp only[exec] at h;obtain ⟨⟨x1,E,J1_,X,U⟩,M⟩:=an G.seq.1 h;have hb:∀ (x:CA) (j:Bo) (J':Aa),(match x with
     | .normal=>exec P call fid H n y ρ j J' K
     | .exit id=>K (.exit id) j J'
     | .ret=>K .ret j J')=some r -> ∃ x2 u J2_,K x2 u J2_=some r/\J'.length<=J2_.length:=by
    intro x j J' D;cases x with
    | normal=>exact (af G.seq.2 D).1
    | exit id=>exact ⟨_,_,_,D,Aa1 _⟩
    | ret=>exact ⟨_,_,_,D,Aa1 _⟩
   refine ⟨?_,fun hi B lo a Z w C L A p q=>?_⟩
   ·obtain ⟨x2,u,J2_,h1,O⟩:=hb x1 E J1_ X;exact ⟨x2,u,J2_,h1,Adt U O⟩
   ·refine wpIn_seq (Agi (M hi (fun N j J' D=>?_) lo a Z w C L A p q) ?_)
    ·obtain ⟨x2,u,J2_,h1,O⟩:=hb N j J' D;exact Adt O (B _ _ _ h1)
    ·rintro e a1 w1 ⟨N,j,J',S,hx,D,V,T,Y,g4,g5,g6⟩;cases hx with
     | normal=>
       simp only[Exit.then];refine Agi ((af G.seq.2 D).2 hi B lo a1 S w1 (Adt C T.size) V (A.step T) Y g4) ?_;rintro e2 a2 w2 ⟨x2,u,J2_,Z2_,k1,k2,k3,k4,k5,k6,k7,k8⟩;exact ⟨x2,u,J2_,Z2_,k1,k2,k3,T.trans k4,k5,k6,k7.trans g5,fun t I=>by
        simp only[P9,Aas,Ahh] at I;rw[k8 t I.2,g6 t I.1]⟩
     | exit id=>
       exact ⟨.exit id,j,J',S,.exit id,D,V,T,Y,g4,g5,fun t I=>g6 t (by simp only[P9,Aas,Ahh] at I; exact I.1)⟩
     | ret=>
       exact ⟨.ret,j,J',S,.ret,D,V,T,Y,g4,g5,fun t I=>g6 t (by simp only[P9,Aas,Ahh] at I; exact I.1)⟩
 | cond c x y an af=>
   intro ρ s J K r G h;simp only[exec] at h;split at h;rotate_left
   ·cases h
   rename_i b hb;split at h
   ·
    cases b with
    | true=>
      simp only[IS] at h;obtain ⟨hlen,M⟩:=an G.cond.1 h;refine ⟨hlen,fun hi B lo a Z w C L A p q=>?_⟩;have hc:=p.ev c _ hb;refine wpIn_cond_true (by generalize a.eval c=v at hc; cases hc; rfl) (Agi (M hi B lo a Z w C L A p q) fun e a' w' D=>XM.mono_post D fun t I=>by simp only[P9,Aas,Ahh] at I; exact I.1)
    | false=>
      simp only[By] at h;obtain ⟨hlen,M⟩:=af G.cond.2 h;refine ⟨hlen,fun hi B lo a Z w C L A p q=>?_⟩;have hc:=p.ev c _ hb;refine wpIn_cond_false (by generalize a.eval c=v at hc; cases hc; rfl) (Agi (M hi B lo a Z w C L A p q) fun e a' w' D=>XM.mono_post D fun t I=>by simp only[P9,Aas,Ahh] at I; exact I.2)
   ·
    rename_i hint hH;simp only[Aai] at h;obtain ⟨r1,h1,O⟩:=h;have join:∀ (z:Code),(∀ t,t ∉ P9 (.seq x y)->t ∉ P9 z)->XM ro nn P z s J (pack hint.exits) r1 ->
      (∃ N j J',K N j J'=some r/\J.length<=J'.length) /\ ∀ hi,(∀ N j J',K N j J'=some r->J'.length<=hi) -> ∀ (lo:Nat) (a:Act) (Z:Mu) (w:World),lo<=w.heap.size->R P Z J w->H8 Z J.length hi->LO Z s a.tmps->PB lo Z w a.defers->z.wpIn (FW ro) nn P (Q5 P (.cond c x y) K r lo a Z J w) a w:=by
     intro z hz ⟨⟨x1,E,J1_,aj,U⟩,M⟩;refine ⟨?_,fun hi B lo a Z w C L A p q=>?_⟩
     ·obtain ⟨u,V,T,Y⟩:=Mn aj O;exact ⟨x1,u,J1_,V,U⟩
     ·refine Agi (M hi (fun N j J' D=>?_) lo a Z w C L A p q) ?_
      ·obtain ⟨u,V,_,_⟩:=Mn D O;exact B _ _ _ V
      ·rintro e a1 w1 ⟨N,j,J',S,hx,D,V,T,Y,g4,g5,g6⟩;obtain ⟨u,k1,k2,k3⟩:=Mn D O;have hle:Z.le S:=T.le (A.sub (Aa1 _) (B _ _ _ k1));refine ⟨N,u,J',S,hx,k1,V,T,⟨by rw[k2,g5]; exact p.1,fun t v hv=>?_⟩,g4,g5,fun t I=>g6 t (hz t I)⟩;rcases k3 t v hv with hv | ⟨I,hv⟩
       ·exact Y.2 t v hv
       ·obtain ⟨v',q1,q2⟩:=p.2 t v hv;exact ⟨v',by rw[g6 t (hz t I)]; exact q1,q2.mono hle⟩
    cases b with
    | true=>
      simp only[IS] at h1;obtain ⟨j1,j2⟩:=join x (fun t I=>by simp only[P9,Aas,Ahh] at I; exact I.1) (an G.cond.1 h1);refine ⟨j1,fun hi B lo a Z w C L A p q=>?_⟩;have hc:=p.ev c _ hb;exact wpIn_cond_true (by generalize a.eval c=v at hc; cases hc; rfl) (j2 hi B lo a Z w C L A p q)
    | false=>
      simp only[By] at h1;obtain ⟨j1,j2⟩:=join y (fun t I=>by simp only[P9,Aas,Ahh] at I; exact I.2) (af G.cond.2 h1);refine ⟨j1,fun hi B lo a Z w C L A p q=>?_⟩;have hc:=p.ev c _ hb;exact wpIn_cond_false (by generalize a.eval c=v at hc; cases hc; rfl) (j2 hi B lo a Z w C L A p q)
 | block id c ih=>
   intro ρ s J K r G h;simp only[exec] at h;obtain ⟨⟨x1,E,J1_,X,U⟩,M⟩:=ih G h;have hb:∀ (x:CA) (j:Bo) (J':Aa),(match x with
     | .normal=>K .normal j J'
     | .exit am=>if am=id then K .normal j J' else K (.exit am) j J'
     | .ret=>K .ret j J')=some r -> ∃ x2,K x2 j J'=some r/\(∀ e,WM x e -> ∀ (Q:Exit->Act->World->Prop) a w,(∀ e2,WM x2 e2->Q e2 a w)->Exit.inBlock id Q e a w):=by
    intro x j J' D;cases x with
    | normal=>exact ⟨_,D,fun e he Q a w hQ=>by cases he; exact hQ _ .normal⟩
    | exit am=>
      simp only at D;split at D
      ·rename_i aw;refine ⟨_,D,fun e he Q a w hQ=>?_⟩;cases he;simp only[Exit.inBlock,aw,Aat];exact hQ _ .normal
      ·rename_i aw;refine ⟨_,D,fun e he Q a w hQ=>?_⟩;cases he;simp only[Exit.inBlock,aw,Aa5];exact hQ _ (.exit am)
    | ret=>exact ⟨_,D,fun e he Q a w hQ=>by cases he; exact hQ _ .ret⟩
   refine ⟨?_,fun hi B lo a Z w C L A p q=>?_⟩
   ·obtain ⟨x2,O,_⟩:=hb x1 E J1_ X;exact ⟨x2,E,J1_,O,U⟩
   ·refine wpIn_block (Agi (M hi (fun N j J' D=>?_) lo a Z w C L A p q) ?_)
    ·obtain ⟨x2,O,_⟩:=hb N j J' D;exact B _ _ _ O
    ·rintro e a1 w1 ⟨N,j,J',S,hx,D,V,T,Y,g4,g5,g6⟩;obtain ⟨x2,O,h3⟩:=hb N j J' D;exact h3 e hx _ a1 w1 fun e2 bl=>⟨x2,j,J',S,bl,O,V,T,Y,g4,g5,g6⟩
 | loop c ih=>
   intro ρ s J K r G h;simp only[exec] at h;split at h
   ·cases h
   rename_i hint hH;simp only[Aai] at h;obtain ⟨r1,h1,O⟩:=h;have rounds:∀ (m:Nat) (E:Bo) (J1_:Aa),Zw (fun s J K=>exec P call fid H n c Bq s J K) hint m E J1_=some r1 ->
     (∃ N j,pack hint.exits N j r1.2.2=some r1/\J1_.length<=r1.2.2.length) /\
     ∀ hi,r1.2.2.length<=hi -> ∀ (lo:Nat) (a:Act) (Z:Mu) (w:World),lo<=w.heap.size->R P Z J1_ w->H8 Z J1_.length hi->LO Z E a.tmps->PB lo Z w a.defers ->
      Code.roundsIn (FW ro) nn P c (fun e a' w'=>∃ N j S,WM N e/\N ≠ .normal/\pack hint.exits N j r1.2.2=some r1/\R P S r1.2.2 w'/\Step Z J1_ w S r1.2.2 w'/\LO S j a'.tmps/\PB lo S w' a'.defers/\a'.tmps.size=a.tmps.size /\ ∀ t,t ∉ P9 c->a'.tmps[t]?=a.tmps[t]?) m a w:=by
    intro m
    induction m with
    | zero=>intro E J1_ D; cases D
    | succ m az=>
      intro E J1_ D;simp only[Zw] at D;obtain ⟨⟨x1,u,J2_,X,U⟩,M⟩:=ih G D;have ab:∀ (x:CA) (j:Bo) (J':Aa),pack hint.exits x j J'=some r1->J'=r1.2.2:=by
       intro x j J' hp;unfold pack at hp;simp only[Aai] at hp;obtain ⟨outs,_,hp⟩:=hp;obtain ⟨vs,_,_,hk⟩:=W1 hp;cases hk; rfl
      have hb:∀ (x:CA) (j:Bo) (J':Aa),(match x with
        | .normal=>Zw (fun s J K=>exec P call fid H n c Bq s J K) hint m (RY hint.live j) J'
        | x=>pack hint.exits x j J')=some r1->J'.length<=r1.2.2.length:=by
       intro x j J' D;cases x with
       | normal=>obtain ⟨_,_,_,hl⟩:=(az _ _ D).1; exact hl
       | exit id=>rw[ab _ _ _ D]; exact Aa1 _
       | ret=>rw[ab _ _ _ D]; exact Aa1 _
      refine ⟨?_,fun hi B lo a Z w C L A p q=>?_⟩
      ·cases x1 with
       | normal=>obtain ⟨N,j,hp,hl⟩:=(az _ _ X).1; exact ⟨N,j,hp,Adt U hl⟩
       | exit id=>have:=ab _ _ _ X; subst this; exact ⟨_,_,X,U⟩
       | ret=>have:=ab _ _ _ X; subst this; exact ⟨_,_,X,U⟩
      ·rw[roundsIn_succ];refine Agi (M hi (fun N j J' D=>Adt (hb N j J' D) B) lo a Z w C L A p q) ?_;rintro e a1 w1 ⟨N,j,J',S,hx,D,V,T,Y,g4,g5,g6⟩;cases hx with
       | normal=>
         simp only[Exit.then];have:=(az _ _ D).2 hi B lo a1 S w1 (Adt C T.size) V (A.step T) (Y.w8 (Uo _ _) (by rw[Qw]; exact Aa1 _)) g4;refine U2 ?_ _ _ _ this;rintro e2 a2 w2 ⟨x2,u,Z2_,k1,b0,k2,k3,k4,k5,k6,k7,k8⟩;exact ⟨x2,u,Z2_,k1,b0,k2,k3,T.trans k4,k5,k6,k7.trans g5,fun t I=>by rw[k8 t I,g6 t I]⟩
       | exit id=>
         have:=ab _ _ _ D; subst this;exact ⟨.exit id,j,S,.exit id,by simp,D,V,T,Y,g4,g5,g6⟩
       | ret=>
         have:=ab _ _ _ D; subst this;exact ⟨.ret,j,S,.ret,by simp,D,V,T,Y,g4,g5,g6⟩
   obtain ⟨⟨x1,E,aj,U⟩,M⟩:=rounds n _ _ h1;refine ⟨?_,fun hi B lo a Z w C L A p q=>?_⟩
   ·obtain ⟨u,V,_,_⟩:=Mn aj O;exact ⟨x1,u,_,V,U⟩
   ·obtain ⟨ba,bb,_,_⟩:=Mn aj O;have aq:=B _ _ _ bb;refine wpIn_loop_rounds n (U2 ?_ _ _ _ (M hi aq lo a Z w C L A (p.w8 (Uo _ _) (by rw[Qw]; exact Aa1 _)) q));rintro e a1 w1 ⟨N,j,S,hx,_,D,V,T,Y,g4,g5,g6⟩;obtain ⟨u,k1,k2,k3⟩:=Mn D O;have hle:Z.le S:=T.le (A.sub (Aa1 _) aq);refine ⟨N,u,_,S,hx,k1,V,T,⟨by rw[k2,g5]; exact p.1,fun t v hv=>?_⟩,g4,g5,g6⟩;rcases k3 t v hv with hv | ⟨I,hv⟩
    ·exact Y.2 t v hv
    ·obtain ⟨v',q1,q2⟩:=p.2 t v hv;exact ⟨v',by rw[g6 t I]; exact q1,q2.mono hle⟩
 | exit id=>
   intro ρ s J K r G h;simp only[exec] at h;exact ⟨⟨_,_,_,h,Aa1 _⟩,fun hi B lo a Z w C L A p q=>wpIn_exit ⟨.exit id,s,J,Z,.exit id,h,L,Step.refl _ _ _,p,q,rfl,fun _ _=>rfl⟩⟩
 | ret=>
   intro ρ s J K r G h;simp only[exec] at h;exact ⟨⟨_,_,_,h,Aa1 _⟩,fun hi B lo a Z w C L A p q=>wpIn_ret ⟨.ret,s,J,Z,.ret,h,L,Step.refl _ _ _,p,q,rfl,fun _ _=>rfl⟩⟩
 | label l=>
   intro ρ s J K r G h;simp only[exec] at h;exact ⟨⟨_,_,_,h,Aa1 _⟩,fun hi B lo a Z w C L A p q=>wpIn_label ⟨.normal,s,J,Z,.normal,h,L,Step.refl _ _ _,p,q,rfl,fun _ _=>rfl⟩⟩
 | scope c ih=>
   intro ρ s J K r G h;simp only[exec] at h;obtain ⟨h1,O⟩:=ih G h;exact ⟨h1,fun hi B lo a Z w C L A p q=>oV (Agi (O hi B lo a Z w C L A p q) fun e a w D=>⟨(by
    obtain ⟨x,_,_,_,hx,_⟩:=D;rintro l rfl; cases hx),D⟩)⟩
 | rangeFunc g ps aa body _ _=>
   intro ρ s J K r G h;obtain ⟨x,bx,bw⟩:=G;obtain ⟨rfl,F,cb,hF,bk,bz⟩:=bw (by simp only[ranges]; omega);cases bx;simp only[exec] at h;split at h;rotate_left
   ·cases h
   rename_i gv hint bm hH;cases av:kK gv with
   | false=>rw[av] at h; cases h
   | true=>
   rw[av] at h;obtain ⟨f,first,cap,rfl⟩:=sd av;simp only[IS,IW] at h;obtain ⟨⟨v,J2_⟩,ar,h⟩:=Aai.1 h;obtain ⟨bt,ar⟩:=iM ar;obtain ⟨hlen,_,⟨F2,be,bj,ax⟩,ai⟩:=ad.fn _ _ _ _ _ bt ar;obtain ⟨f',st,j,x,a9,hK,hx⟩:=eK h;obtain ⟨_,_,hK⟩:=UB hK;have bo:J.length<=(J2_.set J.length .dead).length:=by simp at hlen ⊢; omega
   refine ⟨⟨_,_,_,hK,bo⟩,fun hi B lo a Z w C L A p q=>?_⟩;have ap:J2_.length<=hi:=by have:=B _ _ _ hK; simpa using this
   have a8:=p.ev g _ bm;generalize bi:a.eval g=ag at a8;cases a8 with
   | @func _ _ W _ ac b2 bc bd=>
   refine wpIn_rangeFunc fun fn _=>?_;have b1:lo<=w.heap.size:=C;have bg:=(L.extra (.deferred (some []))).alloc (o:=.loop fid .ready (RY hint.live s)) (x:=.loop { state:=.ready,pending:=none,fn,tmps:=a.tmps,params:=ps,assign:=aa,body,defers:=w.heap.size })
    (k:=⟨w.heap.size+1,0,0,0,0⟩) (A _ (Aa1 _) (by simp at hlen; omega)) (by simp) (by
     refine ⟨_,rfl,⟨F,cb,hF,bk,bz⟩, ?_,rfl,rfl⟩;exact (p.w8 (Uo _ _) (by rw[Qw]; exact Aa1 _)));have ah:Step Z J w (Z.put J.length ⟨w.heap.size+1,0,0,0,0⟩) (J++[.loop fid .ready (RY hint.live s)])
     (vD w fn a.tmps ps aa body):=
    (Step.extra (.deferred (some []))).trans (Step.alloc (by simp));have a3:H8 (Z.put J.length ⟨w.heap.size+1,0,0,0,0⟩) (J++[Au.loop fid .ready (RY hint.live s)]).length hi:=A.step ah;have bq:PB lo (Z.put J.length ⟨w.heap.size+1,0,0,0,0⟩) (vD w fn a.tmps ps aa body)
     ([{ target:=.collected w.heap.size,args:=#[] }]++a.defers):=by
    have hold:=q.step ah;refine ⟨fun d hd=>?_, ?_⟩
    ·rcases Aas.1 hd with hd | hd
     ·simp only[Ac1] at hd;subst hd;refine ⟨w.heap.size,rfl,C,by simp; omega, ?_,fun i k hk=>?_⟩
      ·rw[heap_alloc_old (by simp)]; exact heap_alloc_new w _
      ·by_cases a4:i=J.length
       ·subst a4; rw[Mu.FP] at hk; cases hk; simp
       ·rw[Mu.Gd Z _ a4] at hk;have:=L.lt _ _ hk; omega
     ·exact hold.1 d hd
    ·rw[Ag7,Afi];refine ⟨fun bn=>?_,q.2⟩;obtain ⟨b,hb,_,b3,_⟩:=q.1 _ bn;simp only[Deferred.mk.injEq,Target.collected.injEq,and_true] at hb;omega
   refine ⟨_,_,vD w fn a.tmps ps aa body,{ target:=.fn (.func f) ac,args:=W ++ #[.func (.yield (w.heap.size+1)) #[] #[]] },vD w fn a.tmps ps aa body,f,W ++ #[.func (.yield (w.heap.size+1)) #[] #[]]++ac,vD w fn a.tmps ps aa body,run_enterLoop_outer fn a.tmps ps aa body, ?_,fun _ _=>trivial, ?_,fun hh=>(by cases hh), ?_⟩
   ·have he:∀ v,a.eval (.const v)=v:=fun _=>rfl;simp only[resolve,rangeCall,bi,Deferred.ofValue,Adq,Array.map_singleton,List.map_toArray,Aek,List.map_nil,he]
   ·have hb:F2.body.isNone=false:=by cases D:F2.body <;> simp_all
    simp only[invoke,callFunc,Adm,run_program,Acb,be,ax,hb,Ab8,Aa5,Adq]
   ·have hc:=ai _ _ (W ++ #[.func (.yield (w.heap.size+1)) #[] #[]]++ac) bg (a3.sub (Aa1 _) ap) (by
     have hle:Z.le (Z.put J.length ⟨w.heap.size+1,0,0,0,0⟩):=ah.le (A.sub (Aa1 _) (by simp at hlen ⊢; omega));have hy:J5 (Z.put J.length ⟨w.heap.size+1,0,0,0,0⟩) [Value.func (.yield J.length) #[] #[]] [.func (.yield (w.heap.size+1)) #[] #[]]:=.cons (.yield (k:=⟨w.heap.size+1,0,0,0,0⟩) (Mu.FP _ _ _)) .nil;simpa using ((bc.mono hle).append hy).append (bd.mono hle));refine (pA hc).mono ?_;rintro e' w2 ⟨Z2_,v',rfl,V,T,Y⟩;have a5:Z2_ J.length=some ⟨w.heap.size+1,0,0,0,0⟩:=by
     rw[Y.mu _ (.inl (by simp))]; exact Mu.FP _ _ _
    obtain ⟨r2,bu,bp⟩:=T.obj _ _ _ a9 a5;obtain ⟨_,bv,ak⟩:=bp;have br:r2.state ≠ .busy:=by
     rcases hx with ⟨rfl,_⟩ | ⟨rfl,_⟩
     ·rw[ak.1]; decide
     ·rw[ak.1]; decide
    obtain ⟨bh,a0⟩:=T.record a5 a9 (o:=.dead) (x:=.loop { r2 with state:=.exhausted }) trivial;have hS:=(ah.trans Y).trans a0;have a6:Z.le Z2_:=hS.le (A.sub (Aa1 _) (by simpa using ap));have post:∀ e,WM x e->Q5 P (.rangeFunc g ps aa body) K r lo a Z J w e { a with defers:=[{ target:=.collected w.heap.size,args:=#[] }]++a.defers } (w2.putObj (w.heap.size+1) (.loop { r2 with state:=.exhausted })):=fun e he=>
     ⟨x,s,_,Z2_,he,hK,bh,hS,p.mono a6,(bq.step Y).step a0,rfl,fun _ _=>rfl⟩;refine ⟨_,_,run_endLoop bu br, ?_⟩;generalize w2.putObj (w.heap.size+1) (.loop { r2 with state:=.exhausted })=w4 at post ⊢;rcases hx with ⟨rfl,rfl⟩ | ⟨rfl,bs⟩
    ·rw[ak.2]; exact post _ .normal
    ·rw[ak.2];cases x with
     | normal=>exact absurd rfl bs
     | exit id=>exact wpIn_exit (post _ (.exit id))
     | ret=>exact wpIn_ret (post _ .ret)
 | _=>intros; rename_i h; simp only[exec] at h; cases h
end
end Go.AX
