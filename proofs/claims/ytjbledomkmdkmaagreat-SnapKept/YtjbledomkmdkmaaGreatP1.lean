/- Part 1. -/
import Derived.RangeFuncCalls
import Derived.OrdersIn
import Derived.TacticsIn
import Derived.Test.YtjbledomkmdkmaaGreatP0
set_option linter.unusedVariables false
set_option linter.unusedSimpArgs false
set_option linter.unusedSectionVars false
namespace Go.AX
open Go
noncomputable section
section
variable {P:Program}
abbrev FW (r:Option Nat):Fence:={ Fence.wide with round:=r }
theorem oX {r:Option Nat} {n:Nat} {f:FuncId} {args:Array Value} {w:World} {R:Ending->World->Prop} (h:Calls P f args w R):CallsIn (FW r) n P f args w R:=by
 have h1:CallsIn Fence.wide n P f args w R:=callsIn_wide.2 h;cases r with
 | none=>exact h1
 | some l=>exact CallsIn.inRound l h1
theorem zH {r:Option Nat} {n:Nat} {row:String} {args:Array Value} {w:World} {R:Value->World->Prop} (h:Rows P row args w R):RowsIn (FW r) n P row args w R:=by
 have h1:RowsIn Fence.wide n P row args w R:=fun c cs _=>let ⟨v,w',x,s⟩:=h c cs; ⟨v,w',x,stepsIn_wide.2 s⟩;cases r with
 | none=>exact h1
 | some l=>exact h1
theorem Np {r:Option Nat} {n:Nat} {o:Oper} {a:Act} {w:World} {next:Act->World->Prop} {Q:Exit->Act->World->Prop} (hd:∀ c,o.op ≠ .defer c) (h:o.wp P a w next Q):o.wpIn (FW r) n P a w next Q:=by
 refine ⟨fun _ _=>trivial, ?_⟩;rw[show (FW r).round=r from rfl,Oper.semAt_eq r a.eval o hd];unfold Oper.wp at h;generalize (execOp a.eval o).run P w=res at h ⊢;unfold Oper.upon at h;unfold Oper.uponIn;split at h
 ·exact h
 ·exact h
 ·exact h
 ·refine ⟨fun b=>(by cases b),(oX h).mono ?_⟩;intro e w' he;cases e <;> exact he
 ·exact ⟨fun b=>(by cases b),zH h⟩
 ·exact h
 ·exact h.elim
theorem Pb {o:Oper} {a:Act} {w w':World} {x:Next} (h:(execOp a.eval o).run P w = .ok x w') (f:∀ d,x ≠ .defer d):∀ c,o.op ≠ .defer c:=by
 intro c e;unfold execOp at h;rw[e] at h;simp only[Adb] at h;cases b:(resolve a.eval c o.type).run P w with
 | ok d g=>
   rw[b] at h;simp only[Aci,Adg,Result.ok.injEq] at h;exact f _ h.1.symm
 | halt y g=>
   rw[b] at h;simp[Result.andThen] at h
end
section
variable {ρ:Type} {P:Program} [AH]
theorem Sb {a:Option Nat} {known:List (Nat × Bool)}:∀ {l:List (Nat × Oper)} {x:List (Nat × Oper) × (Nat × Oper) × List (Nat × Oper)},Re a known l=some x->l=x.1++x.2.1::x.2.2
 | [],x,h=>by simp[Re] at h
 | io::rest,x,h=>by
   simp only[Re] at h;cases hp:um a known io.2 with
   | true=>rw[hp] at h; simp at h; subst h; rfl
   | false=>
     rw[hp] at h;simp only[By,Option.map_eq_some_iff] at h;obtain ⟨y,b,rfl⟩:=h;rw[Sb b]; rfl
theorem vk {α:Type} (want b:Bool) (x y:α):sel want b x y=bif b == want then x else y:=by cases want <;> cases b <;> rfl
theorem iL {J J':Aa} {m:Option ρ} {r:ρ} (h:FO J J' m=some r):J <+: J'/\m=some r:=by
 unfold FO at h;cases a:AH.q J J' with
 | true=>rw[a] at h; exact ⟨AH.ok a,h⟩
 | false=>rw[a] at h; cases h
theorem uJ {S:FuncId->Bool} {call:GH} (g:∀ f args J v J',S f=true->call f args J=some (v,J')->J <+: J') {q:Bool} {o:Oper} {regs:Bo} {J:Aa} {K:Value->Aa->Option ρ} {r:ρ}
  (e:Yt P S o=true) (h:Jt P call q o.op o.type (ir regs) J K=some r):∃ v J',K v J'=some r/\J <+: J':=by
 by_cases i:∀ c,o.op ≠ .call c
 ·cases a:Gf P o with
  | pure=>obtain ⟨v,h1,_⟩:=QU a h; exact ⟨v,J,h1,Ae6⟩
  | ld=>obtain ⟨v,h1,_⟩:=iE a h; exact ⟨v,J,h1,Ae6⟩
  | al=>obtain ⟨v,x,h1,_⟩:=nV a i h; exact ⟨v,J++[x],h1,⟨[x],rfl⟩⟩
  | lo=>
    unfold Yt at e;split at e
    ·rename_i c j; exact absurd j (i c)
    ·rw[a] at e; cases e
 ·have:∃ c,o.op = .call c:=by
   apply Adl;intro m;exact i fun c a=>m ⟨c,a⟩
  obtain ⟨c,j⟩:=this;simp only[Yt,j] at e;split at e
  ·rename_i f d;rw[j] at h;simp only[Jt,d,Aab,ir] at h;obtain ⟨n,l,h⟩:=h;cases l;obtain ⟨p,h1,_⟩:=ME h;clear h;simp only[Aab] at h1;obtain ⟨⟨v,J'⟩,k,h1⟩:=h1;have hp:J <+: J':=g f _ J v J' e (iB k).2;cases hb:(q && !oY P (.func (.func f) #[] #[])) with
   | true=>
     rw[hb] at h1;simp only[NH,IS] at h1;exact ⟨v,J',Rp (iL h1).2,hp⟩
   | false=>
     rw[hb] at h1;simp only[NH,By] at h1;exact ⟨v,J',Rp h1,hp⟩
  ·rename_i b d;cases a:Gf P o with
   | pure=>obtain ⟨v,h1,_⟩:=QU a h; exact ⟨v,J,h1,Ae6⟩
   | ld=>obtain ⟨v,h1,_⟩:=iE a h; exact ⟨v,J,h1,Ae6⟩
   | al=>
     simp only[Gf,j,d] at a;cases b <;> cases hm:Uf P c.argTypes.toList <;> simp[hm,dQ] at a
   | lo=>rw[a] at e; cases e
  ·cases e
theorem nI {a:Option Addr} {J J':Aa} {m:Option ρ} {r:ρ} (h:HL a J J' m=some r):m=some r /\ ∀ b,a=some b->J'[b.block]?=J[b.block]?:=by
 cases a with
 | none=>exact ⟨h,fun b e=>by cases e⟩
 | some b=>
   unfold HL at h;simp only at h;cases c:AH.k J J' b.block with
   | true=>rw[c] at h; exact ⟨h,fun d e=>by cases e; exact AH.kok c⟩
   | false=>rw[c] at h; cases h
theorem nH {a:Option Addr} {J J':Aa} {m:Option ρ} {r:ρ} (h:fS a J J' m=some r):m=some r /\ ∀ b:Addr,a=some b->b.block<J.length/\J'[b.block]?=J[b.block]?:=by
 cases a with
 | none=>exact ⟨h,fun b e=>by cases e⟩
 | some b=>
   unfold fS at h;simp only at h;cases c:(Nat.blt b.block J.length && AH.k J J' b.block) with
   | true=>
     rw[c] at h;rw[Adi,Ahg] at c;exact ⟨h,fun d e=>by cases e; exact ⟨c.1,AH.kok c.2⟩⟩
   | false=>rw[c] at h; cases h
def Kept (ts:List Nat) (E:Bo) (J J':Aa):Prop:=∀ t ∈ ts,(∃ a,E.getD t none=some (.pointer a) /\ ∀ b,a=some b->J'[b.block]?=J[b.block]?) \/
 ∃ a l c,E.getD t none=some (.slice a l c) /\ ∀ b:Addr,a=some b->b.block<J.length/\J'[b.block]?=J[b.block]?
theorem PK:∀ {ts:List Nat} {regs:Bo} {J J':Aa} {m:Option ρ} {r:ρ},Ug ts regs J J' m=some r->m=some r/\Kept ts regs J J'
 | [],regs,J,J',m,r,h=>⟨h,fun t b=>by cases b⟩
 | t::ts,regs,J,J',m,r,h=>by
   simp only[Ug] at h;split at h
   ·rename_i a g;obtain ⟨h1,d⟩:=nI h;obtain ⟨e,f⟩:=PK h1;refine ⟨e,fun t' b=>?_⟩;rcases Acv.1 b with rfl | b
    ·exact .inl ⟨a,g,d⟩
    ·exact f t' b
   ·rename_i a l c g;obtain ⟨h1,d⟩:=nH h;obtain ⟨e,f⟩:=PK h1;refine ⟨e,fun t' b=>?_⟩;rcases Acv.1 b with rfl | b
    ·exact .inr ⟨a,l,c,g,d⟩
    ·exact f t' b
   ·cases h
theorem NJ {S:FuncId->Bool} {call:GH} (c:∀ f args J v J',S f=true->call f args J=some (v,J')->J <+: J') {qf:Nat->QF} {all:List Oper}:∀ (fuel:Nat) {ρ:Type} {known:List (Nat × Bool)} {ops:List (Nat × Oper)} {e:Bo} {J:Aa} {K:Bo->Aa->Option ρ} {r:ρ},
  Li P call qf all fuel ρ known ops e J K=some r->(∀ io ∈ ops,Yt P S io.2=true) -> ∃ a J',K a J'=some r/\J <+: J'
 | 0,ρ,known,ops,e,J,K,r,h,q=>by simp[Li] at h
 | fuel+1,ρ,known,ops,e,J,K,r,h,q=>by
   cases ops with
   | nil=>simp only[Li] at h; exact ⟨e,J,h,Ae6⟩
   | cons io rest=>
     have one:(Jt P call (qf io.1).1 io.2.op io.2.type (ir e) J fun v J'=>Ug (qf io.1).2 e J J' (Li P call qf all fuel ρ known rest (K1 e io.2.dst (some v)) J' K))=some r -> ∃ a J',K a J'=some r/\J <+: J':=by
      intro h;obtain ⟨v,J1_,h1,t⟩:=uJ c (q io (by simp)) h;obtain ⟨a,J',n,o⟩:=NJ c fuel (PK h1).1 (fun g k=>q g (by simp[k]));exact ⟨a,J',n,t.trans o⟩
     simp only[Li] at h;split at h
     ·exact one h
     ·rename_i j want C;cases z:known.contains (j,want) with
      | true=>
        rw[z] at h;simp only[IS] at h;split at h
        ·rename_i b B;cases l:(b == want) with
         | false=>rw[l] at h; cases h
         | true=>rw[l] at h; exact one h
        ·cases h
      | false=>
        rw[z] at h;simp only[By] at h;split at h
        ·cases h
        ·rename_i body p after u;have i:=Sb u;simp only at i;split at h
         ·rename_i b B;simp only[Aab] at h;obtain ⟨⟨rb,J1_⟩,h1,t⟩:=h;rw[vk] at h1;have fin:∀ (a:Bo) (J':Aa),(((p.2.dst.bind fun d=>a.getD d none).bind Dk).bind fun r=>some (r,J'))=some (rb,J1_)->J'=J1_:=by
           intro a J' A;rw[Aab] at A;obtain ⟨x,D,w⟩:=A;cases w;rfl
          have m:∀ g ∈ io::(body++[p]),Yt P S g.2=true:=by
           intro g k;apply q;rw[i];simp at k ⊢;rcases k with k | k | k <;> simp[k]
          have s:J <+: J1_:=by
           cases l:(b == want) with
           | true=>
             rw[l] at h1;simp only[IS] at h1;obtain ⟨a,J',n,o⟩:=NJ c fuel h1 m;rw[<- fin _ _ n]; exact o
           | false=>
             rw[l] at h1;simp only[By,Aab] at h1;obtain ⟨y,hs,h1⟩:=h1;obtain ⟨a,J',n,o⟩:=NJ c fuel h1 (fun g k=>m g (by simp at k; simp[k]));rw[<- fin _ _ n]; exact o
          obtain ⟨a,J',n,o⟩:=NJ c fuel t (fun g k=>q g (by rw[i]; simp[k]));exact ⟨a,J',n,s.trans o⟩
         ·cases h
theorem gp {regs:Bo} {r:Bq} {x:C6} {J:Aa}:∀ {os:List (Nat × Kd)} {acc:List Value->List Value},cJ regs os (fun a=>some (x,acc a,J))=some r->r.2.2=J
 | [],acc,h=>by simp only[cJ] at h; cases h; rfl
 | (t,k)::os,acc,h=>by
   simp only[cJ,Aab] at h;obtain ⟨v,_,h⟩:=h;exact gp (acc:=fun a=>acc (v::a)) h
theorem Xo {a:List (C6 × List (Nat × Kd))} {x:C6} {regs:Bo} {J:Aa} {r:Bq} (h:pack a x regs J=some r):r.2.2=J:=by
 unfold pack at h;simp only[Aab] at h;obtain ⟨outs,_,h⟩:=h;exact gp (acc:=id) h
theorem dG {x:C6} {K:C6->List (Nat × Kd)->Option ρ} {r:ρ}:∀ {es:List (C6 × List (Nat × Kd))},WD x K es=some r -> ∃ y outs,K y outs=some r
 | [],h=>by cases h
 | e::es,h=>by
   simp only[WD] at h;split at h
   ·exact ⟨_,_,h⟩
   ·exact dG h
theorem tR {a:List Kd}:∀ {l:List Value} {K:List Value->Option ρ} {r:ρ},ie a l K=some r -> ∃ b,K b=some r:=by
 induction a with
 | nil=>intro l K r h; exact ⟨_,h⟩
 | cons k a c=>
   intro l K r h;simp only[ie,Aab] at h;obtain ⟨v,_,h⟩:=h;obtain ⟨b,h⟩:=c (Tm h);exact ⟨_,h⟩
theorem dI {h:Hint} {c:Code} {regs:Bo} {b:Bq} {K:C6->Bo->Aa->Option ρ} {r:ρ} (hu:unpack h c regs b K=some r):∃ x a,K x a b.2.2=some r:=by
 unfold unpack at hu;obtain ⟨y,outs,hu⟩:=dG hu;obtain ⟨d,hu⟩:=tR hu;exact ⟨_,_,hu⟩
theorem cy {B:Bo->Aa->(C6->Bo->Aa->Option Bq)->Option Bq} {h:Hint} (hB:∀ regs J K r,B regs J K=some r -> ∃ x a J',K x a J'=some r/\J <+: J'):∀ (n:Nat) {regs:Bo} {J:Aa} {r:Bq},Zo B h n regs J=some r->J <+: r.2.2
 | 0,_,_,_,e=>by cases e
 | n+1,regs,J,r,e=>by
   simp only[Zo] at e;obtain ⟨x,a,J',b,c⟩:=hB _ _ _ _ e;cases x with
   | normal=>exact c.trans (cy hB n b)
   | exit i=>rw[Xo b]; exact c
   | ret=>rw[Xo b]; exact c
theorem ry {S:FuncId->Bool} {call:GH} (s:∀ f args J v J',S f=true->call f args J=some (v,J')->J <+: J') {fid:FuncId} {H:Hints} {n:Nat}:∀ (c:Code) {ρ:Type} {d:Bo} {J:Aa} {K:C6->Bo->Aa->Option ρ} {r:ρ},
  P8 P S c=true->exec P call fid H n c ρ d J K=some r -> ∃ x g J',K x g J'=some r/\J <+: J':=by
 intro c
 induction c with
 | skip=>intro ρ d J K r j h; exact ⟨_,_,_,h,Ae6⟩
 | exit i=>intro ρ d J K r j h; exact ⟨_,_,_,h,Ae6⟩
 | ret=>intro ρ d J K r j h; exact ⟨_,_,_,h,Ae6⟩
 | region id ops draw=>
   intro ρ d J K r j h;simp only[exec] at h;simp only[P8,Afh] at j;cases hd:(draw && !Wm P ops.toList (Pa P ops.toList draw)) with
   | true=>rw[hd] at h; cases h
   | false=>
     rw[hd] at h;simp only[By] at h;obtain ⟨g,J',m,o⟩:=NJ s _ h (by
      intro io t;simp only[Ad0] at t;obtain ⟨x,C,rfl⟩:=t;exact j _ (by
       have:=List.mem_zipIdx C;obtain ⟨_,u,A⟩:=this;simp only at A ⊢;rw[A]; exact Ac4 _));exact ⟨_,_,_,m,o⟩
 | seq a b p q=>
   intro ρ d J K r j h;simp only[exec] at h;simp only[P8,Adi] at j;obtain ⟨x,g,J',m,o⟩:=p j.1 h;cases x with
   | normal=>
     obtain ⟨y,l,J2_,D,E⟩:=q j.2 m;exact ⟨y,l,J2_,D,o.trans E⟩
   | exit i=>exact ⟨_,_,_,m,o⟩
   | ret=>exact ⟨_,_,_,m,o⟩
 | cond c a b p q=>
   intro ρ d J K r j h;simp only[exec] at h;simp only[P8,Adi] at j;split at h
   ·rename_i z hb;split at h
    ·cases z with
     | true=>exact p j.1 h
     | false=>exact q j.2 h
    ·simp only[Aab] at h;obtain ⟨B,h1,u⟩:=h;have hp:J <+: B.2.2:=by
      cases z with
      | true=>
        obtain ⟨x,g,J',m,o⟩:=p j.1 h1;rw[Xo m]; exact o
      | false=>
        obtain ⟨x,g,J',m,o⟩:=q j.2 h1;rw[Xo m]; exact o
     obtain ⟨x,l,k⟩:=dI u;exact ⟨x,l,_,k,hp⟩
   ·cases h
 | block id c w=>
   intro ρ d J K r j h;simp only[exec] at h;simp only[P8] at j;obtain ⟨x,g,J',m,o⟩:=w j h;cases x with
   | normal=>exact ⟨_,_,_,m,o⟩
   | exit i=>
     simp only at m;split at m
     ·exact ⟨_,_,_,m,o⟩
     ·exact ⟨_,_,_,m,o⟩
   | ret=>exact ⟨_,_,_,m,o⟩
 | loop c w=>
   intro ρ d J K r j h;simp only[exec] at h;simp only[P8] at j;split at h
   ·cases h
   ·simp only[Aab] at h;obtain ⟨B,h1,u⟩:=h;have hp:=cy (fun d J K r e=>w j e) n h1;obtain ⟨x,l,k⟩:=dI u;exact ⟨x,l,_,k,hp⟩
 | _=>intro ρ d J K r j h; simp[P8] at j
def gW (X:Ext):Prop:=∀ f g,X f=some g -> ∀ args J v J',g args J=some (v,J')->J <+: J'
theorem pf {X:Ext} (j:gW X) {H:FuncId->Hints}:∀ (d k:Nat) (f:FuncId) (args:List Value) (J:Aa) (v:Value) (J':Aa),oU P d f=true->fn P X H k f args J=some (v,J')->J <+: J'
 | 0,_,_,_,_,_,_,h,_=>by cases h
 | d+1,0,_,_,_,_,_,_,h=>by cases h
 | d+1,k+1,f,args,J,v,J',a,h=>by
   have n:=pf j (H:=H) d k;simp only[oU] at a;have e:Nat.beq f YF=false:=by
    cases hb:Nat.beq f YF with
    | true=>rw[hb] at a; cases a
    | false=>rfl
   simp only[fn,e,By] at h a;split at h
   ·rename_i g m;exact j f g m args J v J' h
   ·split at h
    ·cases h
    ·rename_i F l;simp only[l] at a;split at h
     ·cases h
     ·rename_i c hb;rw[hb] at a;simp only at a;split at h
      ·cases h
      ·obtain ⟨x,i,J1_,b,hp⟩:=ry n c a h;have:J'=J1_:=by
        unfold fin at b;split at b
        ·cases b
        ·simp only[Aab] at b;obtain ⟨o,_,b⟩:=b;cases b; rfl
       rw[this]; exact hp
end
section
variable {ρ:Type} {P:Program} [AH]
def w8 (P:Program) (Z:Mu) (J:Aa) (w:World) (v:Value) (J':Aa) (e:Ending) (w':World):Prop:=
 ∃ a b,e = .returned b/\RV a v b/\R P a J' w'/\Step Z J w a J' w'
def oS (P:Program) (args:List Value) (J:Aa) (v:Value) (J':Aa):Prop:=
 ∃ a d,args = .pointer (some a)::d /\ ∀ (Z:Mu) (w:World) (k:YH) (b:Array Value),R P Z J w->H3 Z J.length J'.length->Z a.block=some k->J1 Z d b.toList ->
  ∃ fn tmps c body,(Instr.yield k.b b).run P w = .ok (.round k.b fn tmps c body) w /\ ∀ ro e,RoundIn (FW ro) e P k.b fn tmps c body w (w8 P Z J w v J')
structure VM (P:Program) (call:GH):Prop where
 fn:∀ f args J v J',f≠YF->call f args J=some (v,J')->J.length<=J'.length/\(jO P f=true->J <+: J')/\(∃ F,P.funcs[f]?=some F/\F.body.isSome=true/\(F.name == "runtime.NumGoroutine")=false) /\
  ∀ (Z:Mu) (w:World) (cargs:Array Value),R P Z J w->H3 Z J.length J'.length->J1 Z args cargs.toList->Calls P f cargs w (w8 P Z J w v J')
 yld:∀ args J v J',call YF args J=some (v,J')->J.length<=J'.length/\oS P args J v J'
def qH (P:Program) (o:Oper) (a:Act) (w:World) (Z:Mu) (J:Aa) (v:Value) (J':Aa):Prop:=
 ∀ (ro:Option Nat) (d:Nat) (next:Act->World->Prop) (Q:Exit->Act->World->Prop),(∀ b c w',RV b v c->R P b J' w'->Step Z J w b J' w'->next (a.put o.dst c) w')->o.wpIn (FW ro) d P a w next Q
theorem PN {o:Oper} {a:Act} {w:World} {Z:Mu} {J J':Aa} {v:Value} (h:oP P Z J w v J' ((execOp a.eval o).run P w)):qH P o a w Z J v J':=by
 intro ro j next Q g
 obtain ⟨c,i,w',b,h1,e,f⟩:=h;rcases b with b | ⟨b,rfl⟩
 ·refine Np (Pb b (by intro d hd; cases hd)) ?_;unfold Oper.wp;rw[b,Agp]; exact g c i w' h1 e f
 ·refine Np (Pb b (by intro d hd; cases hd)) ?_;unfold Oper.wp;rw[b,Oper.upon_skip]; exact g c undef w' h1 e f
theorem iD {o:Oper} {a:Act} {w:World} {Z:Mu} {J:Aa} {v:Value} {e:Operand->Option Value} (h:Th P o e v) (c:R P Z J w) (he:∀ x u,e x=some u->RV Z u (a.eval x)):qH P o a w Z J v J:=by
 obtain ⟨d,h1,b⟩:=h Z w a.eval he;exact PN ⟨Z,d,w,.inl h1,b,c,Step.refl _ _ _⟩
theorem nU {o:Oper} {a:Act} {w:World} {Z:Mu} {J:Aa} {v:Value} {e:Operand->Option Value} (h:WL P o e J v) (b:R P Z J w) (he:∀ x u,e x=some u->RV Z u (a.eval x)):qH P o a w Z J v J:=by
 obtain ⟨d,h1,c⟩:=h Z w a.eval b he;exact PN ⟨Z,d,w,.inl h1,c,b,Step.refl _ _ _⟩
theorem iM {J J':Aa} {m:Option ρ} {r:ρ} (h:FO J J' m=some r):J <+: J'/\m=some r:=by
 unfold FO at h;cases a:AH.q J J' with
 | true=>rw[a] at h; exact ⟨AH.ok a,h⟩
 | false=>rw[a] at h; cases h
theorem ow {t:TypeId} {d:String} {f:FuncId} {w:World} {v:Value} (h:iz P t d=some f):(method (P.types.size+Made.depth) t v d).run P w = .ok (f,v) w:=by
 unfold iz at h;split at h
 ·cases h
 rename_i i hi;split at h
 ·cases h
 rename_i m hm;have a:(typeInfo t).run P w = .ok i w:=by
  simp[typeInfo,hi,go_sem]
 have hd:P.types.size+Made.depth=(P.types.size+Made.depth-1)+1:=by
  have:0<Made.depth:=by decide
  omega
 rw[hd,method];split at h
 ·rename_i h1 b c;cases h;simp only[Adb,a,Aci,hm,Adg,h1,follow,b,receiverAt,Ab5 c,Place.get]
 ·rename_i h1 b c;cases h;simp only[Adb,a,Aci,hm,Adg,h1,follow,b,receiverAt,Ab5 c,Place.get]
 ·cases h
theorem uK {call:GH} (z:VM P call) {c:Call} {M:Operand} {q:Bool} {ty:TypeId} {e:Operand->Option Value} {J:Aa} {K:Value->Aa->Option ρ} {r:ρ} {o:Oper} (ho:o.op = .call c) (hc:c.callee = .value M)
  (h:Jt P call q (.call c) ty e J K=some r):∃ v J',K v J'=some r/\J.length<=J'.length/\(q=true->J <+: J') /\
   ∀ (a:Act) (Z:Mu) (w:World),R P Z J w->H3 Z J.length J'.length->(∀ x u,e x=some u->RV Z u (a.eval x))->qH P o a w Z J v J':=by
 simp only[Jt,hc,Aab] at h;obtain ⟨fv,T,h⟩:=h;obtain ⟨vs,h1,X⟩:=ME h;clear h;simp only[Aab] at h1;obtain ⟨⟨v,J'⟩,g,h1⟩:=h1;have Y:K v J'=some r/\(q=true->oY P fv=false->J <+: J'):=by
  cases hb:(q && !oY P fv) with
  | true=>
    rw[hb] at h1;simp only[NH,IS] at h1;obtain ⟨h2,h3⟩:=iM h1;exact ⟨Rp h3,fun _ _=>h2⟩
  | false=>
    rw[hb] at h1;simp only[NH,By] at h1;refine ⟨Rp h1,fun I hv=>?_⟩;rw[I,hv] at hb; cases hb
 unfold IU at g;split at g;rotate_left
 ·rename_i l first cap
  obtain ⟨hlen,a0,us,ad,hy⟩:=z.yld _ _ _ _ g;cases ad;refine ⟨v,J',Y.1,hlen,fun I=>Y.2 I rfl,fun a Z w hR D he=>?_⟩;intro ro nn next Q hn
  have s:=he M _ T;generalize p:a.eval M=af at s;cases s with
  | @func _ _ b _ B E G N=>exact absurd rfl (E _)
  | @yield _ k hh=>
    obtain ⟨fn,tmps,ac,body,ag,L⟩:=hy Z w k (c.args.map a.eval) hR D hh (by simpa using X Z a.eval he);have j:(execOp a.eval o).run P w = .ok (.round k.b fn tmps ac body) w:=by
     have hex:execOp a.eval o=(do let d <- resolve a.eval c o.type; invoke d.target d.args:Sem Next):=by
      unfold execOp; rw[ho]
     rw[hex];simp only[resolve,hc,p,Deferred.ofValue,pure_bind,invoke,Array.empty_append];exact ag
    refine ⟨fun _ _=>trivial, ?_⟩;rw[show (FW ro).round=ro from rfl,Oper.semAt_eq ro a.eval o (Pb j (by intro d hd; cases hd)),j,Oper.uponIn_round];refine ⟨fun hh=>(by cases hh),(L ro _).mono ?_⟩;rintro e' w' ⟨Z',v',rfl,g1,g2,g3⟩;exact hn Z' v' w' g1 g2 g3
 ·rename_i nm first cap
  split at g;rotate_left
  ·cases g
  rename_i t rv rest hl;simp only[Aab] at g;obtain ⟨f,hm,g⟩:=g;obtain ⟨E,g⟩:=iB g;obtain ⟨hlen,C,⟨F,hF,O,A⟩,n⟩:=z.fn _ _ _ _ _ E g;refine ⟨v,J',Y.1,hlen,fun I=>Y.2 I rfl,fun a Z w hR D he=>?_⟩;intro ro nn next Q hn
  have s:=he M _ T;generalize p:a.eval M=af at s;cases s with
  | @func _ _ b _ B _ G N=>
    have m:=G.append (X Z a.eval he);rw[hl] at m;generalize ae:b.toList++c.args.toList.map a.eval=ll at m
    cases m with
    | cons W V=>
    cases W with
    | iface W=>
    rename_i i y;have aa:b++c.args.map a.eval=(Value.iface t y::i).toArray:=by
     apply Agy.1; simpa using ae
    have S:=n Z w (#[y]++i.toArray) hR D (by simpa using J1.cons W V);have U:=ow (w:=w) (v:=y) hm;have j:(execOp a.eval o).run P w = .ok (.enter f (#[y]++i.toArray)) w:=by
     have hex:execOp a.eval o=(do let d <- resolve a.eval c o.type; invoke d.target d.args:Sem Next):=by
      unfold execOp; rw[ho]
     rw[hex];have hb:F.body.isNone=false:=by cases I:F.body <;> simp_all
     have H:(method (P.types.size+Made.depth) t y nm).run P w = .ok (f,y) w:=U;have hx:((Value.iface t y::i).toArray.extract 1 (Value.iface t y::i).toArray.size)=i.toArray:=by simp
     simp only[resolve,hc,p,Deferred.ofValue,pure_bind,invoke,aa,Agw,Ach,callMethod,hx,callFunc,Adb,run_program,Aci,H,hF,A,hb,Abz,Abs,Adg]
    refine Np (Pb j (by intro d hd; cases hd)) ?_;unfold Oper.wp;rw[j,Oper.upon_enter];refine S.mono ?_;rintro e' w' ⟨Z',v',rfl,g1,g2,g3⟩;exact hn Z' v' w' g1 g2 g3
 ·cases g
 rename_i f first cap
 obtain ⟨E,g⟩:=iB g;obtain ⟨hlen,C,⟨F,hF,O,A⟩,n⟩:=z.fn _ _ _ _ _ E g;refine ⟨v,J',Y.1,hlen,(fun I=>by
  cases ab:jO P f with
  | true=>exact C ab
  | false=>exact Y.2 I ab),fun a Z w hR D he=>?_⟩;intro ro nn next Q hn
 have s:=he M _ T;generalize p:a.eval M=af at s;cases s with
 | @func _ _ b _ B _ G N=>
   have m:=(G.append (X Z a.eval he)).append N;have S:=n Z w (b++(c.args.map a.eval)++B) hR D (by simpa using m);have j:(execOp a.eval o).run P w = .ok (.enter f (b++(c.args.map a.eval)++B)) w:=by
    have hex:execOp a.eval o=(do let d <- resolve a.eval c o.type; invoke d.target d.args:Sem Next):=by
     unfold execOp; rw[ho]
    rw[hex];have hb:F.body.isNone=false:=by cases I:F.body <;> simp_all
    simp only[resolve,hc,p,Deferred.ofValue,pure_bind,invoke,callFunc,Adb,run_program,Aci,hF,A,hb,Abz,Abs,Adg]
   refine Np (Pb j (by intro d hd; cases hd)) ?_;unfold Oper.wp;rw[j,Oper.upon_enter];refine S.mono ?_;rintro e' w' ⟨Z',v',rfl,g1,g2,g3⟩;exact hn Z' v' w' g1 g2 g3
structure PZ (P:Program) (o:Oper) (e:Operand->Option Value) (J:Aa) (v:Value) (J':Aa):Prop where
 load:∀ T x,o.op = .load T x -> ∃ a,e x=some (.pointer (some a)) /\ ∀ J2_:Aa,J2_[a.block]?=J[a.block]?->WL P o e J2_ v
 fa:∀ T x f,o.op = .fieldAddr T x f -> ∃ a a',e x=some (.pointer (some a))/\v = .pointer (some a')/\a'.block=a.block
 st:∀ T x y,o.op = .store T x y -> ∃ a,e x=some (.pointer (some a)) /\ ∀ b,b≠a.block->J'[b]?=J[b]?
 al:∀ T,o.op = .alloc T -> ∃ a,v = .pointer (some a)/\a.block=J.length
 mv:∀ x,o.op = .move x\/o.op = .nilCheck x->e x=some v
 sl:∀ T x lo hi mx,o.op = .slice T x lo hi mx -> ∃ a l c,e x=some (.slice a l c) /\ ∀ J2_:Aa,(∀ b:Addr,a=some b->J2_[b.block]?=J[b.block]?)->WL P o e J2_ v
theorem Zr {o:Oper} {e:Operand->Option Value} {J J':Aa} {v:Value} (h1:∀ T x,o.op ≠ .load T x) (h2:∀ T x f,o.op ≠ .fieldAddr T x f) (h3:∀ T x y,o.op ≠ .store T x y) (b:∀ T,o.op ≠ .alloc T) (h5:∀ x,¬ (o.op = .move x\/o.op = .nilCheck x)) (h6:∀ T x lo hi a,o.op ≠ .slice T x lo hi a):PZ P o e J v J':=
 ⟨fun T x h=>absurd h (h1 T x),fun T x f h=>absurd h (h2 T x f),fun T x y h=>absurd h (h3 T x y),fun T h=>absurd h (b T),fun x h=>absurd h (h5 x),fun T x lo hi a h=>absurd h (h6 T x lo hi a)⟩
theorem xp {o:Oper} {call:GH} {q:Bool} {e:Operand->Option Value} {J:Aa} {K:Value->Aa->Option ρ} {r:ρ} (i:Gf P o = .al) (b:∀ c,o.op ≠ .call c)
  (h:Jt P call q o.op o.type e J K=some r):∃ v x,K v (J++[x])=some r/\yC P o e J v (J++[x]) /\ ∀ T,o.op = .alloc T -> ∃ a,v = .pointer (some a)/\a.block=J.length:=by
 by_cases g:∃ T,o.op = .alloc T
 ·obtain ⟨T,j⟩:=g;have h0:=h;rw[j] at h0;simp only[Jt,Aab] at h0;obtain ⟨z,t,h0⟩:=h0;split at h0;rotate_left
  ·cases h0
  rename_i d;have k:Jt P call q o.op o.type e J (fun v s=>some (v,s))=some (.pointer (some ⟨J.length,0,none⟩),J++[.cells z.cells.toList T true]):=by
   rw[j]; simp only[Jt,t,AI,d,Aah]
  obtain ⟨v2,u,f,l⟩:=nV i b k;simp only[Aeg,Prod.mk.injEq] at f;obtain ⟨n,m⟩:=f;subst n;refine ⟨_,u, ?_,l,fun w _=>⟨_,rfl,rfl⟩⟩;rw[m]; exact h0
 ·obtain ⟨v,x,h1,p⟩:=nV i b h;exact ⟨v,x,h1,p,fun T h=>absurd ⟨T,h⟩ g⟩
theorem ZZ {k:Kd} {J:Aa} {b o:Nat} (K:Value->Option ρ):vQ k J b o K=(vQ k J b o some).bind K:=by
 cases k <;> simp[vQ,Agr]
theorem Xh {J:Aa} {b:Nat}:∀ (a:List Kd) (o:Nat) {ρ:Type} (K:List Value->Option ρ),cr a J b o K=(cr a J b o some).bind K
 | [],o,ρ,K=>rfl
 | k::a,o,ρ,K=>by
   simp only[cr];rw[ZZ,ZZ (K:=fun v=>cr a J b (o+1) fun c=>some (v::c)),Agr];congr 1; funext v;rw[Xh a (o+1) (fun c=>K (v::c)),Xh a (o+1) (fun c=>some (v::c)),Agr];congr 1
theorem zx {J J2_:Aa} {b o:Nat} (h:J2_[b]?=J[b]?):CV J2_ b o=CV J b o:=by unfold CV; rw[h]
theorem uz {J J2_:Aa} {k:Kd} {b o:Nat} (h:J2_[b]?=J[b]?) (K:Value->Option ρ):vQ k J2_ b o K=vQ k J b o K:=by
 cases k <;> simp only[vQ,Aj,Vu,uA,B7,Bd,xh,zx h]
theorem pD {J J2_:Aa} {b:Nat} (h:J2_[b]?=J[b]?):∀ (a:List Kd) (o:Nat) (K:List Value->Option ρ),cr a J2_ b o K=cr a J b o K
 | [],o,K=>rfl
 | k::a,o,K=>by
   simp only[cr];rw[uz h];congr 1; funext v;exact pD h a (o+1) _
theorem dZ {T:TypeId} {x:Operand} {call:GH} {q:Bool} {ty:TypeId} {e:Operand->Option Value} {J:Aa} {K:Value->Aa->Option ρ} {r:ρ} {o:Oper} (f:o.op = .load T x)
  (h:Jt P call q (.load T x) ty e J K=some r):∃ v,K v J=some r/\WL P o e J v/\PZ P o e J v J:=by
 simp only[Jt,Aab] at h;obtain ⟨p,hp,h⟩:=h;split at h;rotate_left
 ·cases h
 rename_i u;obtain ⟨a,l,c⟩:=Aab.1 h;clear h;subst l;have h:=c;clear c;have main:∃ v,K v J=some r /\ ∀ J2_:Aa,J2_[a.block]?=J[a.block]?->Jt P call q (.load T x) ty e J2_ (fun v _=>some v)=some v:=by
  cases hb:Lg P T with
  | true=>
    rw[hb,IS] at h;split at h;rotate_left
    ·cases h
    rename_i n;rw[Xh] at h;obtain ⟨A,h1,c⟩:=Aab.1 h;refine ⟨_,c,fun J2_ i=>?_⟩;simp only[Jt,hp,AI,hb,IS];rw[Abm n,Xh,pD i,h1]; rfl
  | false=>
    rw[hb,By] at h;obtain ⟨d,hd,h⟩:=Aab.1 h;rw[ZZ] at h;obtain ⟨v,h1,c⟩:=Aab.1 h;refine ⟨v,c,fun J2_ i=>?_⟩;simp only[Jt,hp,AI,hb,By,hd];rw[ZZ,uz i,h1]; rfl
 obtain ⟨v,t,m⟩:=main;have g:∀ J2_:Aa,J2_[a.block]?=J[a.block]?->WL P o e J2_ v:=fun J2_ i=>by
  obtain ⟨v2,h1,c⟩:=kN f (m J2_ i);cases h1;exact c
 refine ⟨v,t,g J rfl,⟨fun j k b=>?_,fun j k s b=>by (rw[f] at b; cases b),fun j k s b=>by (rw[f] at b; cases b),fun j b=>by (rw[f] at b; cases b),fun k b=>by (rcases b with b | b <;> (rw[f] at b; cases b)),fun j k w y z b=>by (rw[f] at b; cases b)⟩⟩;rw[f] at b;cases b;exact ⟨a,hp,g⟩
theorem kM {T:TypeId} {x:Operand} {n:Nat} {call:GH} {q:Bool} {e:Operand->Option Value} {J:Aa} {K:Value->Aa->Option ρ} {r:ρ} {o:Oper} (c:o.op = .fieldAddr T x n)
  (h:Jt P call q o.op o.type e J K=some r):∃ v,K v J=some r/\Th P o e v/\PZ P o e J v J:=by
 have h0:=h;rw[c] at h;simp only[Jt,Aab] at h;obtain ⟨w,j,p,hp,h⟩:=h;split at h;rotate_left
 ·cases h
 obtain ⟨a,i,h1⟩:=Aab.1 h;clear h;subst i;obtain ⟨s,hs,g⟩:=Aab.1 h1;clear h1;split at g
 ·cases g
 rename_i k;have l:Jt P call q o.op o.type e J (fun v _=>some v)=some (.pointer (some ⟨a.block,a.off+w.1,none⟩)):=by
  rw[c];simp only[Jt,j,hp,hs,AI,k,Abs]
 obtain ⟨v2,t,u⟩:=QU (by unfold Gf; rw[c]) l;cases t;refine ⟨_,g,u,⟨fun d f b=>(by rw[c] at b; cases b),fun d f m b=>?_,fun d f m b=>by (rw[c] at b; cases b),fun d b=>by (rw[c] at b; cases b),fun f b=>by (rcases b with b | b <;> (rw[c] at b; cases b)),fun d f y z A b=>by (rw[c] at b; cases b)⟩⟩;rw[c] at b;cases b;exact ⟨a,_,hp,rfl,rfl⟩
theorem rk {J J2_:Aa} {b:Nat} (h:J2_[b]?=J[b]?):elemAt J2_ b=elemAt J b:=by unfold elemAt; rw[h]
theorem sL {E:TypeId} {s:Nat} {v:Bv} {lo hi d:Option Value} {J J2_:Aa} (h:∀ b:Addr,v.1=some b->J2_[b.block]?=J[b.block]?):Gh E s v lo hi d J2_=Gh E s v lo hi d J:=by
 obtain ⟨a,l,c⟩:=v;cases a with
 | none=>rfl
 | some b=>simp only[Gh,AI,rk (h b rfl)]
theorem iq {e:Operand->Option Value} {x:Option Operand} {α:Type} {K:Option Value->Option α} {r:α} (h:tc e x K=some r):∃ y,K y=some r /\ ∀ {β:Type} (a:Option Value->Option β),tc e x a=a y:=by
 cases x with
 | none=>exact ⟨none,h,fun a=>rfl⟩
 | some x=>
   simp only[tc] at h;obtain ⟨v,b,h⟩:=Aab.1 h;exact ⟨some v,h,fun a=>by simp only[tc,b,AI]⟩
theorem kP {T:TypeId} {x:Operand} {lo hi B:Option Operand} {call:GH} {q:Bool} {e:Operand->Option Value} {J:Aa} {K:Value->Aa->Option ρ} {r:ρ} {o:Oper} (d:o.op = .slice T x lo hi B)
  (h:Jt P call q o.op o.type e J K=some r):∃ v,K v J=some r/\WL P o e J v/\PZ P o e J v J:=by
 rw[d] at h;simp only[Jt] at h;obtain ⟨E,u,h⟩:=Aab.1 h;obtain ⟨s,hs,h⟩:=Aab.1 h;obtain ⟨p,hp,h⟩:=Aab.1 h;obtain ⟨A,l,D⟩:=iq h;clear h;obtain ⟨w,hb,F⟩:=iq l;clear l;obtain ⟨C,h,G⟩:=iq hb;clear hb;split at h;rotate_left
 ·cases h
 rename_i a len cap;obtain ⟨f,z,h⟩:=Aab.1 h;have k:Gf P o = .ld:=by unfold Gf; rw[d]
 have g:∀ J2_:Aa,(∀ b:Addr,a=some b->J2_[b.block]?=J[b.block]?)->WL P o e J2_ (.slice f.1 f.2.1 f.2.2):=fun J2_ y=>by
  have m:Jt P call q o.op o.type e J2_ (fun v _=>some v)=some (.slice f.1 f.2.1 f.2.2):=by
   rw[d];simp only[Jt,u,hs,hp,AI,D,F,G];rw[sL (J:=J) y,z]; rfl
  obtain ⟨v2,h1,t⟩:=iE k m;cases h1;exact t
 refine ⟨_,h,g J (fun _ _=>rfl),⟨fun i j c=>by (rw[d] at c; cases c),fun i j n c=>by (rw[d] at c; cases c),fun i j n c=>by (rw[d] at c; cases c),fun i c=>by (rw[d] at c; cases c),fun j c=>by (rcases c with c | c <;> (rw[d] at c; cases c)),fun i j H I L c=>?_⟩⟩;rw[d] at c;cases c;exact ⟨a,len,cap,hp,g⟩
theorem xm {v:Value} {K:Value->Option ρ} {r:ρ} (h:nQ v K=some r):K v=some r /\ ∀ b:Value->Option Value,nQ v b=b v:=by
 unfold nQ at h;split at h
 ·obtain ⟨a,rfl,h1⟩:=Aab.1 h;exact ⟨h1,fun b=>rfl⟩
 ·exact ⟨h,fun b=>rfl⟩
 ·exact ⟨h,fun b=>rfl⟩
 ·cases h
theorem kO {x:Operand} {call:GH} {q:Bool} {e:Operand->Option Value} {J:Aa} {K:Value->Aa->Option ρ} {r:ρ} {o:Oper} (b:o.op = .move x\/o.op = .nilCheck x)
  (h:Jt P call q o.op o.type e J K=some r):∃ v,K v J=some r/\Th P o e v/\PZ P o e J v J:=by
 rcases b with b | b
 ·rw[b] at h;simp only[Jt] at h;obtain ⟨v,f,l⟩:=Aab.1 h;have g:Jt P call q o.op o.type e J (fun v _=>some v)=some v:=by
   rw[b];simp only[Jt,f,AI]
  obtain ⟨v2,j,k⟩:=QU (by unfold Gf; rw[b]) g;cases j;exact ⟨v,l,k,⟨fun c d a=>(by rw[b] at a; cases a),fun c d i a=>(by rw[b] at a; cases a),fun c d i a=>(by rw[b] at a; cases a),fun c a=>(by rw[b] at a; cases a),fun d a=>(by
   rcases a with a | a
   ·rw[b] at a; cases a; exact f
   ·rw[b] at a; cases a),fun c d p s t a=>by (rw[b] at a; cases a)⟩⟩
 ·rw[b] at h;simp only[Jt] at h;obtain ⟨v,f,m⟩:=Aab.1 h;obtain ⟨l,n⟩:=xm m;have g:Jt P call q o.op o.type e J (fun v _=>some v)=some v:=by
   rw[b];simp only[Jt,f,AI];exact n _
  obtain ⟨v2,j,k⟩:=QU (by unfold Gf; rw[b]) g;cases j;exact ⟨v,l,k,⟨fun c d a=>(by rw[b] at a; cases a),fun c d i a=>(by rw[b] at a; cases a),fun c d i a=>(by rw[b] at a; cases a),fun c a=>(by rw[b] at a; cases a),fun d a=>(by
   rcases a with a | a
   ·rw[b] at a; cases a
   ·rw[b] at a; cases a; exact f),fun c d p s t a=>by (rw[b] at a; cases a)⟩⟩
theorem Abc {call:GH} (E:VM P call) {o:Oper} {q:Bool} {e:Operand->Option Value} {J:Aa} {K:Value->Aa->Option ρ} {r:ρ} (h:Jt P call q o.op o.type e J K=some r):
  ∃ v J',K v J'=some r/\J.length<=J'.length /\
   (∀ (a:Act) (Z:Mu) (w:World),R P Z J w->H3 Z J.length J'.length->(∀ x u,e x=some u->RV Z u (a.eval x))->qH P o a w Z J v J') /\
   (Gf P o = .pure->J'=J/\Th P o e v)/\(Gf P o = .ld->J'=J)/\(Gf P o = .al->(∀ c,o.op ≠ .call c)\/q=true->J <+: J')/\(isApp o=true->q=true->J <+: J')/\PZ P o e J v J':=by
 have t:∀ {x:Cls},Gf P o=x->x ≠ .lo->isApp o=true->False:=by
  intro x Q U l;unfold isApp at l;split at l
  ·rename_i c d;split at l
   ·rename_i k;simp only[Gf,d,k,dQ] at Q;exact U Q.symm
   ·cases l
  ·cases l
 have i:∀ {c:Cls},Gf P o=c->c ≠ .ld->c ≠ .pure -> ∀ {J J':Aa} {v:Value},(∀ T x y,o.op = .store T x y -> ∃ a,e x=some (.pointer (some a)) /\ ∀ b,b≠a.block->J'[b]?=J[b]?)->(∀ T,o.op = .alloc T -> ∃ a,v = .pointer (some a)/\a.block=J.length)->PZ P o e J v J':=by
  intro c g h1 j J J' v p H;refine ⟨fun T x d=>?_,fun T x f d=>?_,p,H,fun x d=>?_,fun T x lo hi G d=>?_⟩
  ·unfold Gf at g; rw[d] at g; exact absurd g.symm h1
  ·unfold Gf at g; rw[d] at g; exact absurd g.symm j
  ·rcases d with d | d <;> (unfold Gf at g; rw[d] at g; exact absurd g.symm j)
  ·unfold Gf at g; rw[d] at g; exact absurd g.symm h1
 cases g:Gf P o with
 | pure=>
   have main:∃ v,K v J=some r/\Th P o e v/\PZ P o e J v J:=by
    by_cases L:∃ T x f,o.op = .fieldAddr T x f
    ·obtain ⟨T,x,f,d⟩:=L;exact kM d h
    ·by_cases M:∃ x,o.op = .move x\/o.op = .nilCheck x
     ·obtain ⟨x,d⟩:=M;exact kO d h
     obtain ⟨v,h1,j⟩:=QU g h;exact ⟨v,h1,j,Zr (fun T x d=>by unfold Gf at g; rw[d] at g; cases g) (fun T x f d=>L ⟨T,x,f,d⟩) (fun T x y d=>by unfold Gf at g; rw[d] at g; cases g) (fun T d=>by unfold Gf at g; rw[d] at g; cases g) (fun x d=>M ⟨x,d⟩) (fun T x lo hi G d=>by unfold Gf at g; rw[d] at g; cases g)⟩
   obtain ⟨v,h1,j,p⟩:=main;exact ⟨v,J,h1,Abp _,fun a Z w C s he=>iD j C he,fun _=>⟨rfl,j⟩,(fun h=>by (cases h)),(fun h=>by (cases h)),fun h=>(t g (by decide) h).elim,p⟩
 | ld=>
   have main:∃ v,K v J=some r/\WL P o e J v/\PZ P o e J v J:=by
    by_cases V:∃ T x,o.op = .load T x
    ·obtain ⟨T,x,d⟩:=V;rw[d] at h;exact dZ d h
    ·by_cases hs:∃ T x lo hi G,o.op = .slice T x lo hi G
     ·obtain ⟨T,x,lo,hi,G,d⟩:=hs;exact kP d h
     obtain ⟨v,h1,j⟩:=iE g h;exact ⟨v,h1,j,Zr (fun T x d=>V ⟨T,x,d⟩) (fun T x f d=>by unfold Gf at g; rw[d] at g; cases g) (fun T x y d=>by unfold Gf at g; rw[d] at g; cases g) (fun T d=>by unfold Gf at g; rw[d] at g; cases g) (fun x d=>by rcases d with d | d <;> (unfold Gf at g; rw[d] at g; cases g)) (fun T x lo hi G d=>hs ⟨T,x,lo,hi,G,d⟩)⟩
   obtain ⟨v,h1,j,p⟩:=main;exact ⟨v,J,h1,Abp _,fun a Z w C s he=>nU j C he,(fun h=>by (cases h)),fun _=>rfl,(fun h=>by (cases h)),fun h=>(t g (by decide) h).elim,p⟩
 | al=>
   have I:=g;by_cases N:∀ c,o.op ≠ .call c
   ·obtain ⟨v,x,h1,j,p⟩:=xp g N h;exact ⟨v,J++[x],h1,by simp,fun a Z w C s he=>PN (j Z w a.eval C s he),fun h=>by (cases h),fun h=>by (cases h),fun _ _=>⟨[x],rfl⟩,fun h=>(t g (by decide) h).elim,i g (by decide) (by decide) (fun T x y d=>by unfold Gf at g; rw[d] at g; cases g) p⟩
   ·have:∃ c,o.op = .call c:=by
     apply Adl;intro F;exact N fun c g=>F ⟨c,g⟩
    obtain ⟨c,d⟩:=this;cases k:c.callee with
    | builtin b=>
      simp only[Gf,d,k] at g;cases b <;> cases hm:Uf P c.argTypes.toList <;> simp[hm,dQ] at g
    | invoke r m=>rw[d] at h; simp only[Jt,k] at h; cases h
    | value W=>
      rw[d] at h;obtain ⟨v,J',h1,j,p,H⟩:=uK E d k h;refine ⟨v,J',h1,j,H,fun h=>by (cases h),fun h=>by (cases h),fun _ F=>?_,fun h=>(t I (by decide) h).elim,i I (by decide) (by decide) (fun T x y n=>by (rw[d] at n; cases n)) (fun T n=>by (rw[d] at n; cases n))⟩;rcases F with F | F
      ·exact absurd d (F c)
      ·exact p F
 | lo=>
   have main:∃ v J',K v J'=some r/\J.length<=J'.length/\qB P o e J v J'/\(isApp o=true->q=true->J <+: J')/\(∀ T x y,o.op = .store T x y -> ∃ a,e x=some (.pointer (some a)) /\ ∀ b,b≠a.block->J'[b]?=J[b]?):=by
    have O:∀ {x:Op},o.op=x->(∀ c,x ≠ .call c)->isApp o=true->False:=by
     intro x Q g l;unfold isApp at l;split at l
     ·rename_i c d;exact g c (Q.symm.trans d)
     ·cases l
    cases d:o.op
    case store=>
     rw[d] at h;obtain ⟨v,J',z,A,B,S⟩:=rZ d h;exact ⟨v,J',z,A,B,fun l=>(O d (by intro c g; cases g) l).elim,fun T x y n=>by cases n; exact S⟩
    case mapUpdate=>
     rw[d] at h;obtain ⟨v,J',z,A,B⟩:=et d h;exact ⟨v,J',z,A,B,fun l=>(O d (by intro c g; cases g) l).elim,fun T x y n=>by cases n⟩
    case call c=>
     rw[d] at h;simp only[Gf,d] at g;split at g
     ·rename_i b hb;by_cases D:b = .append
      ·subst D;obtain ⟨v,J',z,A,B,S⟩:=nW d hb h;exact ⟨v,J',z,A,B,fun _=>S,fun T x y n=>by cases n⟩
      ·obtain ⟨v,J',z,A,B⟩:=cI d hb D g h;exact ⟨v,J',z,A,B,fun l=>absurd (zf d hb l) D,fun T x y n=>by cases n⟩
     ·cases g
    all_goals (simp[Gf,d] at g)
   obtain ⟨v,J',h1,j,p,H,h5⟩:=main;exact ⟨v,J',h1,j,fun a Z w C s he=>PN (p Z w a.eval C s he),fun h=>by (cases h),fun h=>by (cases h),fun h=>by (cases h),H,i g (by decide) (by decide) h5 (fun T d=>by unfold Gf at g; rw[d] at g; cases g)⟩
end
section
variable {ρ:Type} {P:Program} [AH]
def Ld (E regs:Bo):Prop:=∀ (t:Nat) (v:Value),regs.getD t none=some v->E.getD t none=some v
theorem Ld.refl (E:Bo):Ld E E:=fun _ _ h=>h
theorem Ld.trans {a b c:Bo} (h:Ld a b) (g:Ld b c):Ld a c:=fun t v e=>h t v (g t v e)
theorem JS (regs:Bo) (d t:Nat) (v:Option Value):(regs.set d v).getD t none=if d=t/\d<regs.length then v else regs.getD t none:=by
 simp only[Abi,Ad2];by_cases h:d=t
 ·subst h;by_cases a:d<regs.length
  ·simp[a]
  ·simp[a]
 ·simp[h]
theorem Ld.put {E regs:Bo} (h:Ld E regs) (b:regs.length=E.length) (d:Option Nat) (v:Option Value):Ld (K1 E d v) (K1 regs d v):=by
 cases d with
 | none=>exact h
 | some d=>
   intro t u;simp only[K1,JS];by_cases a:d=t/\d<regs.length
   ·rw[Abm a,Abm (by rw[<- b]; exact a)]; exact id
   ·rw[Abo a,Abo (by rw[<- b]; exact a)]; exact h t u
theorem EK (regs:Bo) (d:Option Nat) (v:Option Value):(K1 regs d v).length=regs.length:=by
 cases d <;> simp[K1]
theorem ug {E regs:Bo} (h:Ld E regs) {x:Operand} {u:Value} (a:ir regs x=some u):ir E x=some u:=by
 cases x with
 | tmp t=>exact h t u a
 | const v=>exact a
 | global g=>exact a
 | func f=>exact a
theorem W2 {all:List Oper} {E regs:Bo} (h:Ld E regs) {j:Nat} {u:Value} (a:Oe all regs j=some u):Oe all E j=some u:=by
 unfold Oe at a ⊢;split at a
 ·exact h _ u a
 ·cases a
theorem QL {e a:Operand->Option Value}:∀ {xs:List Operand} {K:List Value->Option ρ},(∀ x ∈ xs,e x=a x)->vP e xs K=vP a xs K
 | [],K,_=>rfl
 | x::xs,K,h=>by
   simp only[vP];rw[h x (by simp)];congr 1; funext v;exact QL fun y b=>h y (by simp[b])
theorem Ym {e a:Operand->Option Value}:∀ {xs:List (Nat × Operand)} {K:List (Nat × Value)->Option ρ},(∀ p ∈ xs,e p.2=a p.2)->yh e xs K=yh a xs K
 | [],K,_=>rfl
 | (i,x)::xs,K,h=>by
   simp only[yh];rw[h (i,x) (by simp)];congr 1; funext v;exact Ym fun y b=>h y (by simp[b])
theorem Yl {e a:Operand->Option Value} {x:Option Operand} {K:Option Value->Option ρ} (h:∀ y,x=some y->e y=a y):tc e x K=tc a x K:=by
 cases x with
 | none=>rfl
 | some y=>simp only[tc]; rw[h y rfl]
theorem rW {call:GH} {q:Bool} {op:Op} {ty:TypeId} {e g:Operand->Option Value} {J:Aa} {K:Value->Aa->Option ρ} (h:∀ x ∈ op.operands,e x=g x):Jt P call q op ty e J K=Jt P call q op ty g J K:=by
 cases op <;> simp only[Op.operands] at h <;> simp only[Jt]
 case build t ps=>congr 1; funext z; exact Ym fun p hp=>h p.2 (by simpa using ⟨p.1,by simpa using hp⟩)
 case buildSlice t n ps=>congr 1; funext E; congr 1; congr 1; funext z; exact Ym fun p hp=>h p.2 (by simpa using ⟨p.1,by simpa using hp⟩)
 case makeFunc fn first captured=>
  split
  ·rfl
  rw[QL (xs:=first.toList) fun x a=>h x (by simp at a; simp[a])];congr 1; funext vs;exact QL fun x a=>h x (by simp at a; simp[a])
 case call c=>
  cases i:c.callee with
  | builtin b=>simp only; exact QL fun x a=>h x (by simp at a; simp[Call.operands,a])
  | invoke r m=>rfl
  | value f=>
    simp only;rw[h f (by simp[Call.operands,i])];congr 1; funext fv;exact QL fun x a=>h x (by simp at a; simp[Call.operands,a])
 case slice t x lo hi mx=>
  congr 1; funext E; congr 1; funext s;rw[h x (by simp)];congr 1; funext v;rw[Yl fun y d=>h y (by simp[d])];congr 1; funext lo';rw[Yl fun y d=>h y (by simp[d])];congr 1; funext hi';rw[Yl fun y d=>h y (by simp[d])]
 case makeMap t r=>cases r <;> rfl
 all_goals (first | rfl | (simp_all; done))
open Classical in
def VG (o:Oper) (e:Operand->Option Value):Operand->Option Value:=fun x=>if x ∈ o.op.operands then e x else none
theorem K7 {o:Oper} {e:Operand->Option Value} {x:Operand} {u:Value} (h:VG o e x=some u):x ∈ o.op.operands/\e x=some u:=by
 unfold VG at h;split at h
 ·exact ⟨‹_›,h⟩
 ·cases h
theorem rX {call:GH} {q:Bool} {o:Oper} {ty:TypeId} {e:Operand->Option Value} {J:Aa} {K:Value->Aa->Option ρ}:Jt P call q o.op ty e J K=Jt P call q o.op ty (VG o e) J K:=
 rW fun x a=>by unfold VG; rw[Abm a]
structure ZW (P:Program) (o:Oper) (q:Bool) (e:Operand->Option Value) (J:Aa) (v:Value) (J':Aa):Prop where
 len:J.length<=J'.length
 wp:∀ (a:Act) (Z:Mu) (w:World),R P Z J w->H3 Z J.length J'.length->(∀ x u,e x=some u->RV Z u (a.eval x))->qH P o a w Z J v J'
 pure:Gf P o = .pure->J'=J/\Th P o e v
 ld:Gf P o = .ld->J'=J
 al:Gf P o = .al->(∀ c,o.op ≠ .call c)\/q=true->J <+: J'
 app:isApp o=true->q=true->J <+: J'
 more:PZ P o e J v J'
def yes (all:List Oper) (o:Oper) (regs:Bo):Prop:=
 match o.guard with
 | none=>True
 | some (j,want)=>Oe all regs j=some (.bool want)
def no (all:List Oper) (o:Oper) (regs:Bo):Prop:=
 ∃ j want,o.guard=some (j,want)/\((∃ b,Oe all regs j=some (.bool b)/\b≠want)\/Oe all regs j=some undef)
inductive Tr (P:Program) (qf:Nat->QF) (all:List Oper):List (Nat × Oper)->Bo->Aa->Bo->Aa->Prop
 | nil {E:Bo} {J:Aa}:Tr P qf all [] E J E J
 | step {i:Nat} {o:Oper} {rest:List (Nat × Oper)} {E regs E':Bo} {J J1_ J':Aa} {v:Value} (hw:Ld E regs) (hy:yes all o regs) (hf:ZW P o (qf i).1 (VG o (ir regs)) J v J1_) (hk:Kept (qf i).2 E J J1_)
   (ht:Tr P qf all rest (K1 E o.dst (some v)) J1_ E' J'):Tr P qf all ((i,o)::rest) E J E' J'
 | skip {i:Nat} {o:Oper} {rest:List (Nat × Oper)} {E regs E':Bo} {J J':Aa} (hw:Ld E regs) (hn:no all o regs) (ht:Tr P qf all rest (K1 E o.dst (some undef)) J E' J'):Tr P qf all ((i,o)::rest) E J E' J'
theorem Tr.append {qf:Nat->QF} {all:List Oper} {a b:List (Nat × Oper)} {E E1 d:Bo} {J J1_ J2_:Aa} (h:Tr P qf all a E J E1 J1_) (g:Tr P qf all b E1 J1_ d J2_):Tr P qf all (a++b) E J d J2_:=by
 induction h with
 | nil=>exact g
 | step hw k e f j c=>exact .step hw k e f (c g)
 | skip hw i j c=>exact .skip hw i (c g)
theorem Tr.len {qf:Nat->QF} {all:List Oper} {a:List (Nat × Oper)} {E E1:Bo} {J J1_:Aa} (h:Tr P qf all a E J E1 J1_):J.length<=J1_.length/\E1.length=E.length:=by
 induction h with
 | nil=>exact ⟨Abp _,rfl⟩
 | step hw g c e d b=>exact ⟨Adj c.len b.1,by rw[b.2,EK]⟩
 | skip hw f d b=>exact ⟨b.1,by rw[b.2,EK]⟩
theorem LC {regs:Bo} {d:Option Nat} {v:Option Value} {t:Nat} (h:d≠some t):(K1 regs d v).getD t none=regs.getD t none:=by
 cases d with
 | none=>rfl
 | some d=>
   simp only[K1,JS];rw[Abo];rintro ⟨rfl,_⟩; exact h rfl
theorem Tr.other {qf:Nat->QF} {all:List Oper} {a:List (Nat × Oper)} {E E1:Bo} {J J1_:Aa} (h:Tr P qf all a E J E1 J1_) {t:Nat} (d:∀ io ∈ a,io.2.dst≠some t):E1.getD t none=E.getD t none:=by
 induction h with
 | nil=>rfl
 | @step i o rest E c E' J J1_ J' v hw j f _ _ e=>exact (e fun io b=>d io (by simp[b])).trans (LC (d (i,o) (by simp)))
 | @skip i o rest E c E' J J' hw g _ e=>exact (e fun io b=>d io (by simp[b])).trans (LC (d (i,o) (by simp)))
theorem Xf {t:Nat} {v:Value}:∀ {ops:List (Nat × Oper)} {a:Bo},(Nv a ops).getD t none=some v->a.getD t none=some v /\ ∀ io ∈ ops,io.2.dst=some t->¬ t<a.length
 | [],a,h=>⟨h,by simp⟩
 | io::rest,a,h=>by
   simp only[Nv] at h;obtain ⟨h1,f⟩:=Xf h;by_cases hd:io.2.dst=some t
   ·rw[hd] at h1;simp only[K1,JS] at h1;by_cases e:t<a.length
    ·simp[e] at h1
    ·rw[Abo (by simp[e])] at h1;refine ⟨h1,fun d b c=>?_⟩;exact e
   ·rw[LC hd] at h1;refine ⟨h1,fun d b c=>?_⟩;rcases Acv.1 b with rfl | b
    ·exact absurd c hd
    ·have:=f d b c; rwa [EK] at this
theorem dx {qf:Nat->QF} {all:List Oper}:∀ {ops:List (Nat × Oper)} {c a E:Bo} (J:Aa),RZ all ops c=some a->Ld E c->c.length=E.length -> ∃ E',Tr P qf all ops E J E' J/\Ld E' a/\a.length=E'.length
 | [],c,a,E,J,h,hw,e=>by
   simp[RZ] at h; subst h; exact ⟨E,.nil,hw,e⟩
 | io::rest,c,a,E,J,h,hw,e=>by
   simp only[RZ] at h;split at h
   ·cases h
   ·rename_i j want i;have done:no all io.2 c->RZ all rest (K1 c io.2.dst (some undef))=some a -> ∃ E',Tr P qf all (io::rest) E J E' J/\Ld E' a/\a.length=E'.length:=by
     intro n h;obtain ⟨E',h1,k,m⟩:=dx J h (hw.put e _ _) (by rw[EK,EK]; exact e);exact ⟨E',.skip hw n h1,k,m⟩
    split at h
    ·rename_i b f;cases d:(b == want) with
     | true=>rw[d] at h; cases h
     | false=>
       rw[d] at h;exact done ⟨j,want,i,.inl ⟨b,f,by simpa using d⟩⟩ h
    ·rename_i g f;cases he:g.toList.isEmpty with
     | false=>rw[he] at h; cases h
     | true=>
       rw[he] at h;refine done ⟨j,want,i,.inr ?_⟩ h;have:g = #[]:=by
        cases g with
        | mk l=>cases l <;> simp_all
       rw[f,this]; rfl
    ·cases h
theorem mj {all:List Oper} {E regs:Bo} {j:Nat} {b:Bool} (hw:Ld E regs) (h:Oe all regs j=some (.bool b)):Ld E (K1 regs (QJ all j) (some (.bool b))):=by
 unfold Oe at h;split at h
 ·rename_i d hd;rw[hd];intro t v;simp only[K1,JS];split
  ·rename_i a;intro c;rw[<- a.1];rw[<- c];exact hw _ _ h
  ·exact hw t v
 ·cases h
theorem QY {call:GH} (i:VM P call) {qf:Nat->QF} {all:List Oper}:∀ (fuel:Nat) {ρ:Type} {known:List (Nat × Bool)} {ops:List (Nat × Oper)} {f E:Bo} {J:Aa} {K:Bo->Aa->Option ρ} {r:ρ},
  Li P call qf all fuel ρ known ops f J K=some r->Ld E f->f.length=E.length -> ∃ e E' J',Tr P qf all ops E J E' J'/\Ld E' e/\e.length=E'.length/\K e J'=some r
 | 0,ρ,known,ops,f,E,J,K,r,h,hw,u=>by simp[Li] at h
 | fuel+1,ρ,known,ops,f,E,J,K,r,h,hw,u=>by
   cases ops with
   | nil=>simp only[Li] at h; exact ⟨f,E,J,.nil,hw,u,h⟩
   | cons io rest=>
     have one:yes all io.2 f->(Jt P call (qf io.1).1 io.2.op io.2.type (ir f) J fun v J'=>Ug (qf io.1).2 f J J' (Li P call qf all fuel ρ known rest (K1 f io.2.dst (some v)) J' K))=some r ->
       ∃ e E' J',Tr P qf all (io::rest) E J E' J'/\Ld E' e/\e.length=E'.length/\K e J'=some r:=by
      intro W h;rw[rX] at h;obtain ⟨v,J1_,h1,L,h3,h4,h5,M⟩:=Abc i h;obtain ⟨h1,G⟩:=PK h1;obtain ⟨e,E',J',o,q,B,s⟩:=QY i fuel h1 (hw.put u _ _) (by rw[EK,EK]; exact u);exact ⟨e,E',J',.step hw W ⟨L,h3,h4,h5,M.1,M.2.1,M.2.2⟩ (fun t ht=>Or.imp (fun ⟨a,C⟩=>⟨a,hw t _ C.1,C.2⟩) (fun ⟨a,l,c,C⟩=>⟨a,l,c,hw t _ C.1,C.2⟩) (G t ht)) o,q,B,s⟩
     simp only[Li] at h;split at h
     ·rename_i Q;exact one (by unfold yes; rw[Q]; trivial) h
     ·rename_i j want Q;cases G:known.contains (j,want) with
      | true=>
        rw[G] at h;simp only[IS] at h;split at h
        ·rename_i b H;cases k:(b == want) with
         | false=>rw[k] at h; cases h
         | true=>
           rw[k] at h;have:b=want:=by simpa using k
           subst this;exact one (by unfold yes; rw[Q]; exact H) h
        ·cases h
      | false=>
        rw[G] at h;simp only[By] at h;split at h
        ·cases h
        ·rename_i body p after S;have n:=Sb S;simp only at n;split at h
         ·rename_i b H;simp only[Aab] at h;obtain ⟨⟨rb,J1_⟩,h1,L⟩:=h;rw[vk] at h1;have I:∃ m E1,Tr P qf all (io::(body++[p])) E J E1 J1_/\Ld E1 m/\(p.2.dst.bind fun d=>m.getD d none)=some (.bool rb):=by
           have fin:∀ (e:Bo) (J':Aa),(((p.2.dst.bind fun d=>e.getD d none).bind Dk).bind fun r=>some (r,J'))=some (rb,J1_)->(p.2.dst.bind fun d=>e.getD d none)=some (.bool rb)/\J'=J1_:=by
            intro e J' hq;rw[Aab] at hq;obtain ⟨x,hx,V⟩:=hq;rw[Aab] at hx;obtain ⟨y,W,D⟩:=hx;cases V;refine ⟨?_,rfl⟩;rw[W];cases y <;> simp[Dk] at D;rw[D]
           cases k:(b == want) with
           | true=>
             rw[k] at h1;simp only[IS] at h1;have:b=want:=by simpa using k
             subst this;obtain ⟨e,E',J',o,q,B,s⟩:=QY i fuel h1 (mj hw H) (by rw[EK]; exact u);obtain ⟨Y,rfl⟩:=fin _ _ s;exact ⟨e,E',o,q,Y⟩
           | false=>
             rw[k] at h1;simp only[By,Aab] at h1;obtain ⟨aa,hs,h1⟩:=h1;have:b = !want:=by
              have:b≠want:=by simpa using k
              cases b <;> cases want <;> simp_all
             subst this;obtain ⟨E2,s1,s2,s3⟩:=dx (P:=P) (qf:=qf) J hs (mj hw H) (by rw[EK]; exact u);obtain ⟨e,E',J',o,q,B,s⟩:=QY i fuel h1 s2 s3;obtain ⟨Y,rfl⟩:=fin _ _ s;exact ⟨e,E',s1.append o,q,Y⟩
          obtain ⟨m,E1,t1,t2,t3⟩:=I;have N:=t1.len.2;have U:Ld E1 (K1 (Nv f (io::body)) p.2.dst (some (.bool rb))):=by
           cases z:p.2.dst with
           | none=>rw[z] at t3; cases t3
           | some pd=>
             rw[z] at t3;simp only[AI] at t3;intro t v;simp only[K1,JS];split
             ·rename_i O;intro T; cases T;rw[<- O.1]; exact t2 _ _ t3
             ·rename_i O;intro T;obtain ⟨Z,m2⟩:=Xf T;have A:t<f.length:=by
               rcases Aeb t f.length with h | h
               ·exact h
               ·rw[Abi,Adh h] at Z; cases Z
              rw[t1.other]
              ·exact hw _ _ Z
              ·intro F g hd;rcases Acv.1 g with rfl | g
               ·exact m2 F (by simp) hd A
               ·rcases Aag.1 g with g | g
                ·exact m2 F (by simp[g]) hd A
                ·simp at g; subst g;rw[z] at hd; cases hd;apply O;refine ⟨rfl, ?_⟩;have:∀ (l:List (Nat × Oper)) (r:Bo),(Nv r l).length=r.length:=by
                  intro l
                  induction l with
                  | nil=>intro r; rfl
                  | cons a l X=>intro r; simp only[Nv]; rw[X,EK]
                 rw[this]; exact A
          have w:(K1 (Nv f (io::body)) p.2.dst (some (.bool rb))).length=E1.length:=by
           have:∀ (l:List (Nat × Oper)) (r:Bo),(Nv r l).length=r.length:=by
            intro l
            induction l with
            | nil=>intro r; rfl
            | cons a l X=>intro r; simp only[Nv]; rw[X,EK]
           rw[EK,this,N]; exact u
          obtain ⟨e,E',J',o,q,B,s⟩:=QY i fuel L U w;refine ⟨e,E',J', ?_,q,B,s⟩;rw[n];have:=t1.append o;simpa using this
         ·cases h
end
section
variable {ρ:Type} {P:Program} [AH]
theorem LI.vN {Z:Mu} {E regs:Bo} {tmps:Array Value} (h:LI Z E tmps) (hw:Ld E regs) (a:regs.length<=E.length):LI Z regs tmps:=
 ⟨Adj a h.1,fun t v b=>h.2 t v (hw t v b)⟩
theorem Xr (a:Act) (d:Option Tmp) (v:Value):(a.put d v).tmps.size=a.tmps.size:=by
 cases d <;> simp[Act.put]
theorem Nw {a:Act} {d:Option Tmp} {v:Value} {t:Nat} (h:d≠some t):(a.put d v).tmps[t]?=a.tmps[t]?:=by
 cases d with
 | none=>rfl
 | some d=>
   simp only[Act.put,Ae5];rw[Abo (by rintro rfl; exact h rfl)]
theorem LI.put {Z:Mu} {regs:Bo} {a:Act} (h:LI Z regs a.tmps) (d:Option Nat) {v v':Value} (j:RV Z v v'):LI Z (K1 regs d (some v)) (a.put d v').tmps:=by
 refine ⟨by rw[EK,Xr]; exact h.1,fun t u b=>?_⟩;cases d with
 | none=>exact h.2 t u b
 | some d=>
   simp only[K1,JS] at b;simp only[Act.put,Ae5];split at b
   ·rename_i e;cases b;have f:d<a.tmps.size:=Acz e.2 h.1;rw[Abm e.1,Abm f];exact ⟨v',rfl,j⟩
   ·rename_i e;obtain ⟨w,g,i⟩:=h.2 t u b;by_cases c:d=t
    ·subst c;have:d<regs.length:=by
      rcases Aeb d regs.length with h | h
      ·exact h
      ·rw[Abi,Adh h] at b; cases b
     exact absurd ⟨rfl,this⟩ e
    ·rw[Abo c]; exact ⟨w,g,i⟩
theorem LI.ev {Z:Mu} {regs:Bo} {a:Act} (h:LI Z regs a.tmps):∀ x u,ir regs x=some u->RV Z u (a.eval x):=by
 intro x u b;cases x with
 | tmp t=>
   obtain ⟨e,h1,c⟩:=h.2 t u b;simp only[Act.eval,Aft,h1,Afi];exact c
 | const v=>
   simp only[ir] at b;split at b
   ·cases b; exact .IW ‹_›
   ·cases b
 | global g=>cases b
 | func f=>
   cases b;exact .func (fun l d=>by cases d) .nil .nil
theorem oI {Z:Mu} {all:Array Oper} {o:Oper} {regs:Bo} {tmps:Array Value} (h:yes all.toList o regs) (c:LI Z regs tmps):Region.wanted o (yielded all tmps)=true:=by
 unfold yes at h;unfold Region.wanted;split at h
 ·rename_i a; rw[a]
 ·rename_i j want a;rw[a];unfold Oe at h;split at h
  ·rename_i d hd;obtain ⟨e,h1,b⟩:=c.2 _ _ h;cases b;unfold QJ at hd;simp only[Ae0] at hd;simp only[yielded,hd,AI,h1];simp
  ·cases h
theorem rR {Z:Mu} {all:Array Oper} {o:Oper} {regs:Bo} {tmps:Array Value} (h:no all.toList o regs) (c:LI Z regs tmps):Region.wanted o (yielded all tmps)=false:=by
 obtain ⟨j,want,e,h⟩:=h;unfold Region.wanted;rw[e];rcases h with ⟨b,h,hb⟩ | h
 ·unfold Oe at h;split at h
  ·rename_i d hd;obtain ⟨f,h1,a⟩:=c.2 _ _ h;cases a;unfold QJ at hd;simp only[Ae0] at hd;simp only[yielded,hd,AI,h1];simpa using hb
  ·cases h
 ·unfold Oe at h;split at h
  ·rename_i d hd;obtain ⟨f,h1,a⟩:=c.2 _ _ h;unfold undef at a;cases a;unfold QJ at hd;simp only[Ae0] at hd;simp only[yielded,hd,AI,h1];rfl
  ·cases h
theorem Abh {ro:Option Nat} {nn:Nat} {qf:Nat->QF} {all:Array Oper} {Q:Exit->Act->World->Prop} {hi:Nat}:∀ {ops:List (Nat × Oper)} {E E':Bo} {J J':Aa},Tr P qf all.toList ops E J E' J'->(∀ io ∈ ops,all[io.1]?=some io.2)->J'.length<=hi ->
  ∀ (a:Act) (Z:Mu) (w:World),R P Z J w->H3 Z J.length hi->LI Z E a.tmps ->
   (∀ (m:Act) (p:Mu) (w':World),R P p J' w'->Step Z J w p J' w'->LI p E' m.tmps->m.defers=a.defers->m.tmps.size=a.tmps.size->(∀ t,(∀ io ∈ ops,io.2.dst≠some t)->m.tmps[t]?=a.tmps[t]?)->Q .normal m w') ->
   wpOpsIn (FW ro) nn P all Q (ops.map (·.1)) a w:=by
 intro ops E E' J J' h
 induction h with
 | nil=>
   intro _ n a Z w A g c z;exact z a Z w A (Step.refl _ _ _) c rfl rfl fun _ _=>rfl
 | @step i o rest E regs E' J J1_ J' v hw F I S H G=>
   intro d n a Z w A g c z;have D:all[i]?=some o:=d (i,o) (by simp);have hlen:=H.len.1;simp only[Aea,wpOpsIn,D];rw[Abm (oI (regs:=E) (by
    unfold yes at F ⊢;split at F
    ·trivial
    ·exact W2 hw F) c)];refine I.wp a Z w A (g.sub (Abp _) (by omega)) (fun x u N=>c.ev x u (ug hw (K7 N).2)) _ _ _ _ ?_;intro Z1_ v1 O M B s;have hle:=s.le (g.sub (Abp _) (by omega));refine G (fun io e=>d io (by simp[e])) n (a.put o.dst v1) Z1_ O B (g.step s) ((c.mono hle).put _ M) ?_;intro m p w' q r f hd y k;refine z m p w' q (s.trans r) f (by rw[hd]; cases o.dst <;> rfl) (by rw[y,Xr]) ?_;intro t l;rw[k t fun io e=>l io (by simp[e]),Nw (l (i,o) (by simp))]
 | @skip i o rest E regs E' J J' hw L H G=>
   intro d n a Z w A g c z;have D:all[i]?=some o:=d (i,o) (by simp);simp only[Aea,wpOpsIn,D];have C:no all.toList o E:=by
    obtain ⟨j,want,K,h⟩:=L;refine ⟨j,want,K, ?_⟩;rcases h with ⟨b,h,hb⟩ | h
    ·exact .inl ⟨b,W2 hw h,hb⟩
    ·exact .inr (W2 hw h)
   rw[rR C c];simp only[Abz,Abs];refine ⟨fun _ _=>trivial, ?_⟩;refine G (fun io e=>d io (by simp[e])) n (a.put o.dst undef) Z w A g (c.put _ Ra) ?_;intro m p w' q r f hd y k;refine z m p w' q r f (by rw[hd]; cases o.dst <;> rfl) (by rw[y,Xr]) ?_;intro t l;rw[k t fun io e=>l io (by simp[e]),Nw (l (i,o) (by simp))]
end
end
end Go.AX
