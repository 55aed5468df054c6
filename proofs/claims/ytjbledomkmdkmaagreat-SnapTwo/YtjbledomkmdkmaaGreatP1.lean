/- Part 1. -/
import Derived.RangeFuncCalls
import Derived.OrdersIn
import Derived.TacticsIn
import Derived.Test.YtjbledomkmdkmaaGreatP0
set_option linter.unusedVariables false
set_option linter.unusedSimpArgs false
set_option linter.unusedSectionVars false
namespace Go.AX
open Go
noncomputable section
section
variable {P:Program}
abbrev FW (r:Option Nat):Fence:={ Fence.wide with round:=r }
theorem pA {r:Option Nat} {n:Nat} {f:FuncId} {args:Array Value} {w:World} {R:Ending->World->Prop} (h:Calls P f args w R):CallsIn (FW r) n P f args w R:=by
 have h1:CallsIn Fence.wide n P f args w R:=callsIn_wide.2 h;cases r with
 | none=>exact h1
 | some l=>exact CallsIn.inRound l h1
theorem Aac {r:Option Nat} {n:Nat} {row:String} {args:Array Value} {w:World} {R:Value->World->Prop} (h:Rows P row args w R):RowsIn (FW r) n P row args w R:=by
 have h1:RowsIn Fence.wide n P row args w R:=fun c cs _=>let ⟨v,w',x,s⟩:=h c cs; ⟨v,w',x,stepsIn_wide.2 s⟩;cases r with
 | none=>exact h1
 | some l=>exact h1
theorem Nt {r:Option Nat} {n:Nat} {o:Oper} {a:Act} {w:World} {next:Act->World->Prop} {Q:Exit->Act->World->Prop} (hd:∀ c,o.op ≠ .defer c) (h:o.wp P a w next Q):o.wpIn (FW r) n P a w next Q:=by
 refine ⟨fun _ _=>trivial, ?_⟩;rw[show (FW r).round=r from rfl,Oper.semAt_eq r a.eval o hd];unfold Oper.wp at h;generalize (execOp a.eval o).run P w=res at h ⊢;unfold Oper.upon at h;unfold Oper.uponIn;split at h
 ·exact h
 ·exact h
 ·exact h
 ·refine ⟨fun b=>(by cases b),(pA h).mono ?_⟩;intro e w' he;cases e <;> exact he
 ·exact ⟨fun b=>(by cases b),Aac h⟩
 ·exact h
 ·exact h.elim
theorem Pk {o:Oper} {a:Act} {w w':World} {x:Next} (h:(execOp a.eval o).run P w = .ok x w') (f:∀ d,x ≠ .defer d):∀ c,o.op ≠ .defer c:=by
 intro c e;unfold execOp at h;rw[e] at h;simp only[Adm] at h;cases b:(resolve a.eval c o.type).run P w with
 | ok d g=>
   rw[b] at h;simp only[Acb,Adq,Result.ok.injEq] at h;exact f _ h.1.symm
 | halt y g=>
   rw[b] at h;simp[Result.andThen] at h
end
section
variable {ρ:Type} {P:Program} [AJ]
theorem Sm {a:Option Nat} {known:List (Nat × Bool)}:∀ {l:List (Nat × Oper)} {x:List (Nat × Oper) × (Nat × Oper) × List (Nat × Oper)},Rm a known l=some x->l=x.1++x.2.1::x.2.2
 | [],x,h=>by simp[Rm] at h
 | io::rest,x,h=>by
   simp only[Rm] at h;cases hp:uM a known io.2 with
   | true=>rw[hp] at h; simp at h; subst h; rfl
   | false=>
     rw[hp] at h;simp only[By,Option.map_eq_some_iff] at h;obtain ⟨y,b,rfl⟩:=h;rw[Sm b]; rfl
theorem vK {α:Type} (want b:Bool) (x y:α):sel want b x y=bif b == want then x else y:=by cases want <;> cases b <;> rfl
theorem iW {J J':Aa} {m:Option ρ} {r:ρ} (h:FQ J J' m=some r):J <+: J'/\m=some r:=by
 unfold FQ at h;cases a:AJ.q J J' with
 | true=>rw[a] at h; exact ⟨AJ.ok a,h⟩
 | false=>rw[a] at h; cases h
theorem vh {S:FuncId->Bool} {call:GK} (g:∀ f args J v J',S f=true->call f args J=some (v,J')->J <+: J') {q:Bool} {o:Oper} {regs:Bo} {J:Aa} {K:Value->Aa->Option ρ} {r:ρ}
  (e:Y8 P S o=true) (h:Jv P call q o.op o.type (iG regs) J K=some r):∃ v J',K v J'=some r/\J <+: J':=by
 by_cases i:∀ c,o.op ≠ .call c
 ·cases a:Gh P o with
  | pure=>obtain ⟨v,h1,_⟩:=Rb a h; exact ⟨v,J,h1,Afg⟩
  | ld=>obtain ⟨v,h1,_⟩:=iP a h; exact ⟨v,J,h1,Afg⟩
  | al=>obtain ⟨v,x,h1,_⟩:=ov a i h; exact ⟨v,J++[x],h1,⟨[x],rfl⟩⟩
  | lo=>
    unfold Y8 at e;split at e
    ·rename_i c j; exact absurd j (i c)
    ·rw[a] at e; cases e
 ·have:∃ c,o.op = .call c:=by
   apply Adv;intro m;exact i fun c a=>m ⟨c,a⟩
  obtain ⟨c,j⟩:=this;simp only[Y8,j] at e;split at e
  ·rename_i f d;rw[j] at h;simp only[Jv,d,Aai,iG] at h;obtain ⟨n,l,h⟩:=h;cases l;obtain ⟨p,h1,_⟩:=MI h;clear h;simp only[Aai] at h1;obtain ⟨⟨v,J'⟩,k,h1⟩:=h1;have hp:J <+: J':=g f _ J v J' e (iM k).2;cases hb:(q && !pB P (.func (.func f) #[] #[])) with
   | true=>
     rw[hb] at h1;simp only[NO,IS] at h1;exact ⟨v,J',Rz (iW h1).2,hp⟩
   | false=>
     rw[hb] at h1;simp only[NO,By] at h1;exact ⟨v,J',Rz h1,hp⟩
  ·rename_i b d;cases a:Gh P o with
   | pure=>obtain ⟨v,h1,_⟩:=Rb a h; exact ⟨v,J,h1,Afg⟩
   | ld=>obtain ⟨v,h1,_⟩:=iP a h; exact ⟨v,J,h1,Afg⟩
   | al=>
     simp only[Gh,j,d] at a;cases b <;> cases hm:Ul P c.argTypes.toList <;> simp[hm,eu] at a
   | lo=>rw[a] at e; cases e
  ·cases e
theorem nW {a:Option Addr} {J J':Aa} {m:Option ρ} {r:ρ} (h:HH a J J' m=some r):m=some r /\ ∀ b,a=some b->J'[b.block]?=J[b.block]?:=by
 cases a with
 | none=>exact ⟨h,fun b e=>by cases e⟩
 | some b=>
   unfold HH at h;simp only at h;cases c:AJ.k J J' b.block with
   | true=>rw[c] at h; exact ⟨h,fun d e=>by cases e; exact AJ.kok c⟩
   | false=>rw[c] at h; cases h
theorem nV {a:Option Addr} {J J':Aa} {m:Option ρ} {r:ρ} (h:gj a J J' m=some r):m=some r /\ ∀ b:Addr,a=some b->b.block<J.length/\J'[b.block]?=J[b.block]?:=by
 cases a with
 | none=>exact ⟨h,fun b e=>by cases e⟩
 | some b=>
   unfold gj at h;simp only at h;cases c:(Nat.blt b.block J.length && AJ.k J J' b.block) with
   | true=>
     rw[c] at h;rw[Ads,Ahq] at c;exact ⟨h,fun d e=>by cases e; exact ⟨c.1,AJ.kok c.2⟩⟩
   | false=>rw[c] at h; cases h
def Kept (ts:List Nat) (E:Bo) (J J':Aa):Prop:=∀ t ∈ ts,(∃ a,E.getD t none=some (.pointer a) /\ ∀ b,a=some b->J'[b.block]?=J[b.block]?) \/
 ∃ a l c,E.getD t none=some (.slice a l c) /\ ∀ b:Addr,a=some b->b.block<J.length/\J'[b.block]?=J[b.block]?
theorem PT:∀ {ts:List Nat} {regs:Bo} {J J':Aa} {m:Option ρ} {r:ρ},Um ts regs J J' m=some r->m=some r/\Kept ts regs J J'
 | [],regs,J,J',m,r,h=>⟨h,fun t b=>by cases b⟩
 | t::ts,regs,J,J',m,r,h=>by
   simp only[Um] at h;split at h
   ·rename_i a g;obtain ⟨h1,d⟩:=nW h;obtain ⟨e,f⟩:=PT h1;refine ⟨e,fun t' b=>?_⟩;rcases Acd.1 b with rfl | b
    ·exact .inl ⟨a,g,d⟩
    ·exact f t' b
   ·rename_i a l c g;obtain ⟨h1,d⟩:=nV h;obtain ⟨e,f⟩:=PT h1;refine ⟨e,fun t' b=>?_⟩;rcases Acd.1 b with rfl | b
    ·exact .inr ⟨a,l,c,g,d⟩
    ·exact f t' b
   ·cases h
theorem NQ {S:FuncId->Bool} {call:GK} (c:∀ f args J v J',S f=true->call f args J=some (v,J')->J <+: J') {qf:Nat->QF} {all:List Oper}:∀ (fuel:Nat) {ρ:Type} {known:List (Nat × Bool)} {ops:List (Nat × Oper)} {e:Bo} {J:Aa} {K:Bo->Aa->Option ρ} {r:ρ},
  Lo P call qf all fuel ρ known ops e J K=some r->(∀ io ∈ ops,Y8 P S io.2=true) -> ∃ a J',K a J'=some r/\J <+: J'
 | 0,ρ,known,ops,e,J,K,r,h,q=>by simp[Lo] at h
 | fuel+1,ρ,known,ops,e,J,K,r,h,q=>by
   cases ops with
   | nil=>simp only[Lo] at h; exact ⟨e,J,h,Afg⟩
   | cons io rest=>
     have one:(Jv P call (qf io.1).1 io.2.op io.2.type (iG e) J fun v J'=>Um (qf io.1).2 e J J' (Lo P call qf all fuel ρ known rest (KC e io.2.dst (some v)) J' K))=some r -> ∃ a J',K a J'=some r/\J <+: J':=by
      intro h;obtain ⟨v,J1_,h1,t⟩:=vh c (q io (by simp)) h;obtain ⟨a,J',n,o⟩:=NQ c fuel (PT h1).1 (fun g k=>q g (by simp[k]));exact ⟨a,J',n,t.trans o⟩
     simp only[Lo] at h;split at h
     ·exact one h
     ·rename_i j want C;cases z:known.contains (j,want) with
      | true=>
        rw[z] at h;simp only[IS] at h;split at h
        ·rename_i b B;cases l:(b == want) with
         | false=>rw[l] at h; cases h
         | true=>rw[l] at h; exact one h
        ·cases h
      | false=>
        rw[z] at h;simp only[By] at h;split at h
        ·cases h
        ·rename_i body p after u;have i:=Sm u;simp only at i;split at h
         ·rename_i b B;simp only[Aai] at h;obtain ⟨⟨rb,J1_⟩,h1,t⟩:=h;rw[vK] at h1;have fin:∀ (a:Bo) (J':Aa),(((p.2.dst.bind fun d=>a.getD d none).bind Dl).bind fun r=>some (r,J'))=some (rb,J1_)->J'=J1_:=by
           intro a J' A;rw[Aai] at A;obtain ⟨x,D,w⟩:=A;cases w;rfl
          have m:∀ g ∈ io::(body++[p]),Y8 P S g.2=true:=by
           intro g k;apply q;rw[i];simp at k ⊢;rcases k with k | k | k <;> simp[k]
          have s:J <+: J1_:=by
           cases l:(b == want) with
           | true=>
             rw[l] at h1;simp only[IS] at h1;obtain ⟨a,J',n,o⟩:=NQ c fuel h1 m;rw[<- fin _ _ n]; exact o
           | false=>
             rw[l] at h1;simp only[By,Aai] at h1;obtain ⟨y,hs,h1⟩:=h1;obtain ⟨a,J',n,o⟩:=NQ c fuel h1 (fun g k=>m g (by simp at k; simp[k]));rw[<- fin _ _ n]; exact o
          obtain ⟨a,J',n,o⟩:=NQ c fuel t (fun g k=>q g (by rw[i]; simp[k]));exact ⟨a,J',n,s.trans o⟩
         ·cases h
theorem gC {regs:Bo} {r:Bq} {x:CA} {J:Aa}:∀ {os:List (Nat × Kd)} {acc:List Value->List Value},cU regs os (fun a=>some (x,acc a,J))=some r->r.2.2=J
 | [],acc,h=>by simp only[cU] at h; cases h; rfl
 | (t,k)::os,acc,h=>by
   simp only[cU,Aai] at h;obtain ⟨v,_,h⟩:=h;exact gC (acc:=fun a=>acc (v::a)) h
theorem Xu {a:List (CA × List (Nat × Kd))} {x:CA} {regs:Bo} {J:Aa} {r:Bq} (h:pack a x regs J=some r):r.2.2=J:=by
 unfold pack at h;simp only[Aai] at h;obtain ⟨outs,_,h⟩:=h;exact gC (acc:=id) h
theorem dP {x:CA} {K:CA->List (Nat × Kd)->Option ρ} {r:ρ}:∀ {es:List (CA × List (Nat × Kd))},WK x K es=some r -> ∃ y outs,K y outs=some r
 | [],h=>by cases h
 | e::es,h=>by
   simp only[WK] at h;split at h
   ·exact ⟨_,_,h⟩
   ·exact dP h
theorem uq {a:List Kd}:∀ {l:List Value} {K:List Value->Option ρ} {r:ρ},iz a l K=some r -> ∃ b,K b=some r:=by
 induction a with
 | nil=>intro l K r h; exact ⟨_,h⟩
 | cons k a c=>
   intro l K r h;simp only[iz,Aai] at h;obtain ⟨v,_,h⟩:=h;obtain ⟨b,h⟩:=c (Tw h);exact ⟨_,h⟩
theorem dR {h:Hint} {c:Code} {regs:Bo} {b:Bq} {K:CA->Bo->Aa->Option ρ} {r:ρ} (hu:unpack h c regs b K=some r):∃ x a,K x a b.2.2=some r:=by
 unfold unpack at hu;obtain ⟨y,outs,hu⟩:=dP hu;obtain ⟨d,hu⟩:=uq hu;exact ⟨_,_,hu⟩
theorem cN {B:Bo->Aa->(CA->Bo->Aa->Option Bq)->Option Bq} {h:Hint} (hB:∀ regs J K r,B regs J K=some r -> ∃ x a J',K x a J'=some r/\J <+: J'):∀ (n:Nat) {regs:Bo} {J:Aa} {r:Bq},Zw B h n regs J=some r->J <+: r.2.2
 | 0,_,_,_,e=>by cases e
 | n+1,regs,J,r,e=>by
   simp only[Zw] at e;obtain ⟨x,a,J',b,c⟩:=hB _ _ _ _ e;cases x with
   | normal=>exact c.trans (cN hB n b)
   | exit i=>rw[Xu b]; exact c
   | ret=>rw[Xu b]; exact c
theorem rT {S:FuncId->Bool} {call:GK} (s:∀ f args J v J',S f=true->call f args J=some (v,J')->J <+: J') {fid:FuncId} {H:Hints} {n:Nat}:∀ (c:Code) {ρ:Type} {d:Bo} {J:Aa} {K:CA->Bo->Aa->Option ρ} {r:ρ},
  PF P S c=true->exec P call fid H n c ρ d J K=some r -> ∃ x g J',K x g J'=some r/\J <+: J':=by
 intro c
 induction c with
 | skip=>intro ρ d J K r j h; exact ⟨_,_,_,h,Afg⟩
 | exit i=>intro ρ d J K r j h; exact ⟨_,_,_,h,Afg⟩
 | ret=>intro ρ d J K r j h; exact ⟨_,_,_,h,Afg⟩
 | region id ops draw=>
   intro ρ d J K r j h;simp only[exec] at h;simp only[PF,Afr] at j;cases hd:(draw && !Wr P ops.toList (Pj P ops.toList draw)) with
   | true=>rw[hd] at h; cases h
   | false=>
     rw[hd] at h;simp only[By] at h;obtain ⟨g,J',m,o⟩:=NQ s _ h (by
      intro io t;simp only[Aeb] at t;obtain ⟨x,C,rfl⟩:=t;exact j _ (by
       have:=List.mem_zipIdx C;obtain ⟨_,u,A⟩:=this;simp only at A ⊢;rw[A]; exact Adb _));exact ⟨_,_,_,m,o⟩
 | seq a b p q=>
   intro ρ d J K r j h;simp only[exec] at h;simp only[PF,Ads] at j;obtain ⟨x,g,J',m,o⟩:=p j.1 h;cases x with
   | normal=>
     obtain ⟨y,l,J2_,D,E⟩:=q j.2 m;exact ⟨y,l,J2_,D,o.trans E⟩
   | exit i=>exact ⟨_,_,_,m,o⟩
   | ret=>exact ⟨_,_,_,m,o⟩
 | cond c a b p q=>
   intro ρ d J K r j h;simp only[exec] at h;simp only[PF,Ads] at j;split at h
   ·rename_i z hb;split at h
    ·cases z with
     | true=>exact p j.1 h
     | false=>exact q j.2 h
    ·simp only[Aai] at h;obtain ⟨B,h1,u⟩:=h;have hp:J <+: B.2.2:=by
      cases z with
      | true=>
        obtain ⟨x,g,J',m,o⟩:=p j.1 h1;rw[Xu m]; exact o
      | false=>
        obtain ⟨x,g,J',m,o⟩:=q j.2 h1;rw[Xu m]; exact o
     obtain ⟨x,l,k⟩:=dR u;exact ⟨x,l,_,k,hp⟩
   ·cases h
 | block id c w=>
   intro ρ d J K r j h;simp only[exec] at h;simp only[PF] at j;obtain ⟨x,g,J',m,o⟩:=w j h;cases x with
   | normal=>exact ⟨_,_,_,m,o⟩
   | exit i=>
     simp only at m;split at m
     ·exact ⟨_,_,_,m,o⟩
     ·exact ⟨_,_,_,m,o⟩
   | ret=>exact ⟨_,_,_,m,o⟩
 | loop c w=>
   intro ρ d J K r j h;simp only[exec] at h;simp only[PF] at j;split at h
   ·cases h
   ·simp only[Aai] at h;obtain ⟨B,h1,u⟩:=h;have hp:=cN (fun d J K r e=>w j e) n h1;obtain ⟨x,l,k⟩:=dR u;exact ⟨x,l,_,k,hp⟩
 | _=>intro ρ d J K r j h; simp[PF] at j
def ig (X:Ext):Prop:=∀ f g,X f=some g -> ∀ args J v J',g args J=some (v,J')->J <+: J'
theorem pH {X:Ext} (j:ig X) {H:FuncId->Hints}:∀ (d k:Nat) (f:FuncId) (args:List Value) (J:Aa) (v:Value) (J':Aa),px P d f=true->fn P X H k f args J=some (v,J')->J <+: J'
 | 0,_,_,_,_,_,_,h,_=>by cases h
 | d+1,0,_,_,_,_,_,_,h=>by cases h
 | d+1,k+1,f,args,J,v,J',a,h=>by
   have n:=pH j (H:=H) d k;simp only[px] at a;have e:Nat.beq f YF=false:=by
    cases hb:Nat.beq f YF with
    | true=>rw[hb] at a; cases a
    | false=>rfl
   simp only[fn,e,By] at h a;split at h
   ·rename_i g m;exact j f g m args J v J' h
   ·split at h
    ·cases h
    ·rename_i F l;simp only[l] at a;split at h
     ·cases h
     ·rename_i c hb;rw[hb] at a;simp only at a;split at h
      ·cases h
      ·obtain ⟨x,i,J1_,b,hp⟩:=rT n c a h;have:J'=J1_:=by
        unfold fin at b;split at b
        ·cases b
        ·simp only[Aai] at b;obtain ⟨o,_,b⟩:=b;cases b; rfl
       rw[this]; exact hp
end
section
variable {ρ:Type} {P:Program} [AJ]
def wW (P:Program) (Z:Mu) (J:Aa) (w:World) (v:Value) (J':Aa) (e:Ending) (w':World):Prop:=
 ∃ a b,e = .returned b/\RV a v b/\R P a J' w'/\Step Z J w a J' w'
def pj (P:Program) (args:List Value) (J:Aa) (v:Value) (J':Aa):Prop:=
 ∃ a d,args = .pointer (some a)::d /\ ∀ (Z:Mu) (w:World) (k:YR) (b:Array Value),R P Z J w->H8 Z J.length J'.length->Z a.block=some k->J5 Z d b.toList ->
  ∃ fn tmps c body,(Instr.yield k.b b).run P w = .ok (.round k.b fn tmps c body) w /\ ∀ ro e,RoundIn (FW ro) e P k.b fn tmps c body w (wW P Z J w v J')
structure VQ (P:Program) (call:GK):Prop where
 fn:∀ f args J v J',f≠YF->call f args J=some (v,J')->J.length<=J'.length/\(jZ P f=true->J <+: J')/\(∃ F,P.funcs[f]?=some F/\F.body.isSome=true/\(F.name == "runtime.NumGoroutine")=false) /\
  ∀ (Z:Mu) (w:World) (cargs:Array Value),R P Z J w->H8 Z J.length J'.length->J5 Z args cargs.toList->Calls P f cargs w (wW P Z J w v J')
 yld:∀ args J v J',call YF args J=some (v,J')->J.length<=J'.length/\pj P args J v J'
def ri (P:Program) (o:Oper) (a:Act) (w:World) (Z:Mu) (J:Aa) (v:Value) (J':Aa):Prop:=
 ∀ (ro:Option Nat) (d:Nat) (next:Act->World->Prop) (Q:Exit->Act->World->Prop),(∀ b c w',RV b v c->R P b J' w'->Step Z J w b J' w'->next (a.put o.dst c) w')->o.wpIn (FW ro) d P a w next Q
theorem PW {o:Oper} {a:Act} {w:World} {Z:Mu} {J J':Aa} {v:Value} (h:pc P Z J w v J' ((execOp a.eval o).run P w)):ri P o a w Z J v J':=by
 intro ro j next Q g
 obtain ⟨c,i,w',b,h1,e,f⟩:=h;rcases b with b | ⟨b,rfl⟩
 ·refine Nt (Pk b (by intro d hd; cases hd)) ?_;unfold Oper.wp;rw[b,Agz]; exact g c i w' h1 e f
 ·refine Nt (Pk b (by intro d hd; cases hd)) ?_;unfold Oper.wp;rw[b,Oper.upon_skip]; exact g c undef w' h1 e f
theorem iO {o:Oper} {a:Act} {w:World} {Z:Mu} {J:Aa} {v:Value} {e:Operand->Option Value} (h:Tp P o e v) (c:R P Z J w) (he:∀ x u,e x=some u->RV Z u (a.eval x)):ri P o a w Z J v J:=by
 obtain ⟨d,h1,b⟩:=h Z w a.eval he;exact PW ⟨Z,d,w,.inl h1,b,c,Step.refl _ _ _⟩
theorem ou {o:Oper} {a:Act} {w:World} {Z:Mu} {J:Aa} {v:Value} {e:Operand->Option Value} (h:WR P o e J v) (b:R P Z J w) (he:∀ x u,e x=some u->RV Z u (a.eval x)):ri P o a w Z J v J:=by
 obtain ⟨d,h1,c⟩:=h Z w a.eval b he;exact PW ⟨Z,d,w,.inl h1,c,b,Step.refl _ _ _⟩
theorem iX {J J':Aa} {m:Option ρ} {r:ρ} (h:FQ J J' m=some r):J <+: J'/\m=some r:=by
 unfold FQ at h;cases a:AJ.q J J' with
 | true=>rw[a] at h; exact ⟨AJ.ok a,h⟩
 | false=>rw[a] at h; cases h
theorem oG {t:TypeId} {d:String} {f:FuncId} {w:World} {v:Value} (h:iK P t d=some f):(method (P.types.size+Made.depth) t v d).run P w = .ok (f,v) w:=by
 unfold iK at h;split at h
 ·cases h
 rename_i i hi;split at h
 ·cases h
 rename_i m hm;have a:(typeInfo t).run P w = .ok i w:=by
  simp[typeInfo,hi,go_sem]
 have hd:P.types.size+Made.depth=(P.types.size+Made.depth-1)+1:=by
  have:0<Made.depth:=by decide
  omega
 rw[hd,method];split at h
 ·rename_i h1 b c;cases h;simp only[Adm,a,Acb,hm,Adq,h1,follow,b,receiverAt,Ab9 c,Place.get]
 ·rename_i h1 b c;cases h;simp only[Adm,a,Acb,hm,Adq,h1,follow,b,receiverAt,Ab9 c,Place.get]
 ·cases h
theorem vi {call:GK} (z:VQ P call) {c:Call} {M:Operand} {q:Bool} {ty:TypeId} {e:Operand->Option Value} {J:Aa} {K:Value->Aa->Option ρ} {r:ρ} {o:Oper} (ho:o.op = .call c) (hc:c.callee = .value M)
  (h:Jv P call q (.call c) ty e J K=some r):∃ v J',K v J'=some r/\J.length<=J'.length/\(q=true->J <+: J') /\
   ∀ (a:Act) (Z:Mu) (w:World),R P Z J w->H8 Z J.length J'.length->(∀ x u,e x=some u->RV Z u (a.eval x))->ri P o a w Z J v J':=by
 simp only[Jv,hc,Aai] at h;obtain ⟨fv,T,h⟩:=h;obtain ⟨vs,h1,X⟩:=MI h;clear h;simp only[Aai] at h1;obtain ⟨⟨v,J'⟩,g,h1⟩:=h1;have Y:K v J'=some r/\(q=true->pB P fv=false->J <+: J'):=by
  cases hb:(q && !pB P fv) with
  | true=>
    rw[hb] at h1;simp only[NO,IS] at h1;obtain ⟨h2,h3⟩:=iX h1;exact ⟨Rz h3,fun _ _=>h2⟩
  | false=>
    rw[hb] at h1;simp only[NO,By] at h1;refine ⟨Rz h1,fun I hv=>?_⟩;rw[I,hv] at hb; cases hb
 unfold IW at g;split at g;rotate_left
 ·rename_i l first cap
  obtain ⟨hlen,a0,us,ad,hy⟩:=z.yld _ _ _ _ g;cases ad;refine ⟨v,J',Y.1,hlen,fun I=>Y.2 I rfl,fun a Z w hR D he=>?_⟩;intro ro nn next Q hn
  have s:=he M _ T;generalize p:a.eval M=af at s;cases s with
  | @func _ _ b _ B E G N=>exact absurd rfl (E _)
  | @yield _ k hh=>
    obtain ⟨fn,tmps,ac,body,ag,L⟩:=hy Z w k (c.args.map a.eval) hR D hh (by simpa using X Z a.eval he);have j:(execOp a.eval o).run P w = .ok (.round k.b fn tmps ac body) w:=by
     have hex:execOp a.eval o=(do let d <- resolve a.eval c o.type; invoke d.target d.args:Sem Next):=by
      unfold execOp; rw[ho]
     rw[hex];simp only[resolve,hc,p,Deferred.ofValue,pure_bind,invoke,Array.empty_append];exact ag
    refine ⟨fun _ _=>trivial, ?_⟩;rw[show (FW ro).round=ro from rfl,Oper.semAt_eq ro a.eval o (Pk j (by intro d hd; cases hd)),j,Oper.uponIn_round];refine ⟨fun hh=>(by cases hh),(L ro _).mono ?_⟩;rintro e' w' ⟨Z',v',rfl,g1,g2,g3⟩;exact hn Z' v' w' g1 g2 g3
 ·rename_i nm first cap
  split at g;rotate_left
  ·cases g
  rename_i t rv rest hl;simp only[Aai] at g;obtain ⟨f,hm,g⟩:=g;obtain ⟨E,g⟩:=iM g;obtain ⟨hlen,C,⟨F,hF,O,A⟩,n⟩:=z.fn _ _ _ _ _ E g;refine ⟨v,J',Y.1,hlen,fun I=>Y.2 I rfl,fun a Z w hR D he=>?_⟩;intro ro nn next Q hn
  have s:=he M _ T;generalize p:a.eval M=af at s;cases s with
  | @func _ _ b _ B _ G N=>
    have m:=G.append (X Z a.eval he);rw[hl] at m;generalize ae:b.toList++c.args.toList.map a.eval=ll at m
    cases m with
    | cons W V=>
    cases W with
    | iface W=>
    rename_i i y;have aa:b++c.args.map a.eval=(Value.iface t y::i).toArray:=by
     apply Ag8.1; simpa using ae
    have S:=n Z w (#[y]++i.toArray) hR D (by simpa using J5.cons W V);have U:=oG (w:=w) (v:=y) hm;have j:(execOp a.eval o).run P w = .ok (.enter f (#[y]++i.toArray)) w:=by
     have hex:execOp a.eval o=(do let d <- resolve a.eval c o.type; invoke d.target d.args:Sem Next):=by
      unfold execOp; rw[ho]
     rw[hex];have hb:F.body.isNone=false:=by cases I:F.body <;> simp_all
     have H:(method (P.types.size+Made.depth) t y nm).run P w = .ok (f,y) w:=U;have hx:((Value.iface t y::i).toArray.extract 1 (Value.iface t y::i).toArray.size)=i.toArray:=by simp
     simp only[resolve,hc,p,Deferred.ofValue,pure_bind,invoke,aa,Ag6,Aca,callMethod,hx,callFunc,Adm,run_program,Acb,H,hF,A,hb,Ab8,Aa5,Adq]
    refine Nt (Pk j (by intro d hd; cases hd)) ?_;unfold Oper.wp;rw[j,Oper.upon_enter];refine S.mono ?_;rintro e' w' ⟨Z',v',rfl,g1,g2,g3⟩;exact hn Z' v' w' g1 g2 g3
 ·cases g
 rename_i f first cap
 obtain ⟨E,g⟩:=iM g;obtain ⟨hlen,C,⟨F,hF,O,A⟩,n⟩:=z.fn _ _ _ _ _ E g;refine ⟨v,J',Y.1,hlen,(fun I=>by
  cases ab:jZ P f with
  | true=>exact C ab
  | false=>exact Y.2 I ab),fun a Z w hR D he=>?_⟩;intro ro nn next Q hn
 have s:=he M _ T;generalize p:a.eval M=af at s;cases s with
 | @func _ _ b _ B _ G N=>
   have m:=(G.append (X Z a.eval he)).append N;have S:=n Z w (b++(c.args.map a.eval)++B) hR D (by simpa using m);have j:(execOp a.eval o).run P w = .ok (.enter f (b++(c.args.map a.eval)++B)) w:=by
    have hex:execOp a.eval o=(do let d <- resolve a.eval c o.type; invoke d.target d.args:Sem Next):=by
     unfold execOp; rw[ho]
    rw[hex];have hb:F.body.isNone=false:=by cases I:F.body <;> simp_all
    simp only[resolve,hc,p,Deferred.ofValue,pure_bind,invoke,callFunc,Adm,run_program,Acb,hF,A,hb,Ab8,Aa5,Adq]
   refine Nt (Pk j (by intro d hd; cases hd)) ?_;unfold Oper.wp;rw[j,Oper.upon_enter];refine S.mono ?_;rintro e' w' ⟨Z',v',rfl,g1,g2,g3⟩;exact hn Z' v' w' g1 g2 g3
structure Qg (P:Program) (o:Oper) (e:Operand->Option Value) (J:Aa) (v:Value) (J':Aa):Prop where
 load:∀ T x,o.op = .load T x -> ∃ a,e x=some (.pointer (some a)) /\ ∀ J2_:Aa,J2_[a.block]?=J[a.block]?->WR P o e J2_ v
 fa:∀ T x f,o.op = .fieldAddr T x f -> ∃ a a',e x=some (.pointer (some a))/\v = .pointer (some a')/\a'.block=a.block
 st:∀ T x y,o.op = .store T x y -> ∃ a,e x=some (.pointer (some a)) /\ ∀ b,b≠a.block->J'[b]?=J[b]?
 al:∀ T,o.op = .alloc T -> ∃ a,v = .pointer (some a)/\a.block=J.length
 mv:∀ x,o.op = .move x\/o.op = .nilCheck x->e x=some v
 sl:∀ T x lo hi mx,o.op = .slice T x lo hi mx -> ∃ a l c,e x=some (.slice a l c) /\ ∀ J2_:Aa,(∀ b:Addr,a=some b->J2_[b.block]?=J[b.block]?)->WR P o e J2_ v
theorem Zz {o:Oper} {e:Operand->Option Value} {J J':Aa} {v:Value} (h1:∀ T x,o.op ≠ .load T x) (h2:∀ T x f,o.op ≠ .fieldAddr T x f) (h3:∀ T x y,o.op ≠ .store T x y) (b:∀ T,o.op ≠ .alloc T) (h5:∀ x,¬ (o.op = .move x\/o.op = .nilCheck x)) (h6:∀ T x lo hi a,o.op ≠ .slice T x lo hi a):Qg P o e J v J':=
 ⟨fun T x h=>absurd h (h1 T x),fun T x f h=>absurd h (h2 T x f),fun T x y h=>absurd h (h3 T x y),fun T h=>absurd h (b T),fun x h=>absurd h (h5 x),fun T x lo hi a h=>absurd h (h6 T x lo hi a)⟩
theorem xN {o:Oper} {call:GK} {q:Bool} {e:Operand->Option Value} {J:Aa} {K:Value->Aa->Option ρ} {r:ρ} (i:Gh P o = .al) (b:∀ c,o.op ≠ .call c)
  (h:Jv P call q o.op o.type e J K=some r):∃ v x,K v (J++[x])=some r/\yX P o e J v (J++[x]) /\ ∀ T,o.op = .alloc T -> ∃ a,v = .pointer (some a)/\a.block=J.length:=by
 by_cases g:∃ T,o.op = .alloc T
 ·obtain ⟨T,j⟩:=g;have h0:=h;rw[j] at h0;simp only[Jv,Aai] at h0;obtain ⟨z,t,h0⟩:=h0;split at h0;rotate_left
  ·cases h0
  rename_i d;have k:Jv P call q o.op o.type e J (fun v s=>some (v,s))=some (.pointer (some ⟨J.length,0,none⟩),J++[.cells z.cells.toList T true]):=by
   rw[j]; simp only[Jv,t,AI,d,Aat]
  obtain ⟨v2,u,f,l⟩:=ov i b k;simp only[Aeq,Prod.mk.injEq] at f;obtain ⟨n,m⟩:=f;subst n;refine ⟨_,u, ?_,l,fun w _=>⟨_,rfl,rfl⟩⟩;rw[m]; exact h0
 ·obtain ⟨v,x,h1,p⟩:=ov i b h;exact ⟨v,x,h1,p,fun T h=>absurd ⟨T,h⟩ g⟩
theorem aq {k:Kd} {J:Aa} {b o:Nat} (K:Value->Option ρ):wC k J b o K=(wC k J b o some).bind K:=by
 cases k <;> simp[wC,Ag1]
theorem Xn {J:Aa} {b:Nat}:∀ (a:List Kd) (o:Nat) {ρ:Type} (K:List Value->Option ρ),cI a J b o K=(cI a J b o some).bind K
 | [],o,ρ,K=>rfl
 | k::a,o,ρ,K=>by
   simp only[cI];rw[aq,aq (K:=fun v=>cI a J b (o+1) fun c=>some (v::c)),Ag1];congr 1; funext v;rw[Xn a (o+1) (fun c=>K (v::c)),Xn a (o+1) (fun c=>some (v::c)),Ag1];congr 1
theorem zQ {J J2_:Aa} {b o:Nat} (h:J2_[b]?=J[b]?):CW J2_ b o=CW J b o:=by unfold CW; rw[h]
theorem uV {J J2_:Aa} {k:Kd} {b o:Nat} (h:J2_[b]?=J[b]?) (K:Value->Option ρ):wC k J2_ b o K=wC k J b o K:=by
 cases k <;> simp only[wC,Aj,Vy,uW,B9,Be,xH,zQ h]
theorem pZ {J J2_:Aa} {b:Nat} (h:J2_[b]?=J[b]?):∀ (a:List Kd) (o:Nat) (K:List Value->Option ρ),cI a J2_ b o K=cI a J b o K
 | [],o,K=>rfl
 | k::a,o,K=>by
   simp only[cI];rw[uV h];congr 1; funext v;exact pZ h a (o+1) _
theorem eX {T:TypeId} {x:Operand} {call:GK} {q:Bool} {ty:TypeId} {e:Operand->Option Value} {J:Aa} {K:Value->Aa->Option ρ} {r:ρ} {o:Oper} (f:o.op = .load T x)
  (h:Jv P call q (.load T x) ty e J K=some r):∃ v,K v J=some r/\WR P o e J v/\Qg P o e J v J:=by
 simp only[Jv,Aai] at h;obtain ⟨p,hp,h⟩:=h;split at h;rotate_left
 ·cases h
 rename_i u;obtain ⟨a,l,c⟩:=Aai.1 h;clear h;subst l;have h:=c;clear c;have main:∃ v,K v J=some r /\ ∀ J2_:Aa,J2_[a.block]?=J[a.block]?->Jv P call q (.load T x) ty e J2_ (fun v _=>some v)=some v:=by
  cases hb:Lm P T with
  | true=>
    rw[hb,IS] at h;split at h;rotate_left
    ·cases h
    rename_i n;rw[Xn] at h;obtain ⟨A,h1,c⟩:=Aai.1 h;refine ⟨_,c,fun J2_ i=>?_⟩;simp only[Jv,hp,AI,hb,IS];rw[Aay n,Xn,pZ i,h1]; rfl
  | false=>
    rw[hb,By] at h;obtain ⟨d,hd,h⟩:=Aai.1 h;rw[aq] at h;obtain ⟨v,h1,c⟩:=Aai.1 h;refine ⟨v,c,fun J2_ i=>?_⟩;simp only[Jv,hp,AI,hb,By,hd];rw[aq,uV i,h1]; rfl
 obtain ⟨v,t,m⟩:=main;have g:∀ J2_:Aa,J2_[a.block]?=J[a.block]?->WR P o e J2_ v:=fun J2_ i=>by
  obtain ⟨v2,h1,c⟩:=lg f (m J2_ i);cases h1;exact c
 refine ⟨v,t,g J rfl,⟨fun j k b=>?_,fun j k s b=>by (rw[f] at b; cases b),fun j k s b=>by (rw[f] at b; cases b),fun j b=>by (rw[f] at b; cases b),fun k b=>by (rcases b with b | b <;> (rw[f] at b; cases b)),fun j k w y z b=>by (rw[f] at b; cases b)⟩⟩;rw[f] at b;cases b;exact ⟨a,hp,g⟩
theorem kZ {T:TypeId} {x:Operand} {n:Nat} {call:GK} {q:Bool} {e:Operand->Option Value} {J:Aa} {K:Value->Aa->Option ρ} {r:ρ} {o:Oper} (c:o.op = .fieldAddr T x n)
  (h:Jv P call q o.op o.type e J K=some r):∃ v,K v J=some r/\Tp P o e v/\Qg P o e J v J:=by
 have h0:=h;rw[c] at h;simp only[Jv,Aai] at h;obtain ⟨w,j,p,hp,h⟩:=h;split at h;rotate_left
 ·cases h
 obtain ⟨a,i,h1⟩:=Aai.1 h;clear h;subst i;obtain ⟨s,hs,g⟩:=Aai.1 h1;clear h1;split at g
 ·cases g
 rename_i k;have l:Jv P call q o.op o.type e J (fun v _=>some v)=some (.pointer (some ⟨a.block,a.off+w.1,none⟩)):=by
  rw[c];simp only[Jv,j,hp,hs,AI,k,Aa5]
 obtain ⟨v2,t,u⟩:=Rb (by unfold Gh; rw[c]) l;cases t;refine ⟨_,g,u,⟨fun d f b=>(by rw[c] at b; cases b),fun d f m b=>?_,fun d f m b=>by (rw[c] at b; cases b),fun d b=>by (rw[c] at b; cases b),fun f b=>by (rcases b with b | b <;> (rw[c] at b; cases b)),fun d f y z A b=>by (rw[c] at b; cases b)⟩⟩;rw[c] at b;cases b;exact ⟨a,_,hp,rfl,rfl⟩
theorem rP {J J2_:Aa} {b:Nat} (h:J2_[b]?=J[b]?):elemAt J2_ b=elemAt J b:=by unfold elemAt; rw[h]
theorem tj {E:TypeId} {s:Nat} {v:Bx} {lo hi d:Option Value} {J J2_:Aa} (h:∀ b:Addr,v.1=some b->J2_[b.block]?=J[b.block]?):Gj E s v lo hi d J2_=Gj E s v lo hi d J:=by
 obtain ⟨a,l,c⟩:=v;cases a with
 | none=>rfl
 | some b=>simp only[Gj,AI,rP (h b rfl)]
theorem iF {e:Operand->Option Value} {x:Option Operand} {α:Type} {K:Option Value->Option α} {r:α} (h:tD e x K=some r):∃ y,K y=some r /\ ∀ {β:Type} (a:Option Value->Option β),tD e x a=a y:=by
 cases x with
 | none=>exact ⟨none,h,fun a=>rfl⟩
 | some x=>
   simp only[tD] at h;obtain ⟨v,b,h⟩:=Aai.1 h;exact ⟨some v,h,fun a=>by simp only[tD,b,AI]⟩
theorem lu {T:TypeId} {x:Operand} {lo hi B:Option Operand} {call:GK} {q:Bool} {e:Operand->Option Value} {J:Aa} {K:Value->Aa->Option ρ} {r:ρ} {o:Oper} (d:o.op = .slice T x lo hi B)
  (h:Jv P call q o.op o.type e J K=some r):∃ v,K v J=some r/\WR P o e J v/\Qg P o e J v J:=by
 rw[d] at h;simp only[Jv] at h;obtain ⟨E,u,h⟩:=Aai.1 h;obtain ⟨s,hs,h⟩:=Aai.1 h;obtain ⟨p,hp,h⟩:=Aai.1 h;obtain ⟨A,l,D⟩:=iF h;clear h;obtain ⟨w,hb,F⟩:=iF l;clear l;obtain ⟨C,h,G⟩:=iF hb;clear hb;split at h;rotate_left
 ·cases h
 rename_i a len cap;obtain ⟨f,z,h⟩:=Aai.1 h;have k:Gh P o = .ld:=by unfold Gh; rw[d]
 have g:∀ J2_:Aa,(∀ b:Addr,a=some b->J2_[b.block]?=J[b.block]?)->WR P o e J2_ (.slice f.1 f.2.1 f.2.2):=fun J2_ y=>by
  have m:Jv P call q o.op o.type e J2_ (fun v _=>some v)=some (.slice f.1 f.2.1 f.2.2):=by
   rw[d];simp only[Jv,u,hs,hp,AI,D,F,G];rw[tj (J:=J) y,z]; rfl
  obtain ⟨v2,h1,t⟩:=iP k m;cases h1;exact t
 refine ⟨_,h,g J (fun _ _=>rfl),⟨fun i j c=>by (rw[d] at c; cases c),fun i j n c=>by (rw[d] at c; cases c),fun i j n c=>by (rw[d] at c; cases c),fun i c=>by (rw[d] at c; cases c),fun j c=>by (rcases c with c | c <;> (rw[d] at c; cases c)),fun i j H I L c=>?_⟩⟩;rw[d] at c;cases c;exact ⟨a,len,cap,hp,g⟩
theorem xK {v:Value} {K:Value->Option ρ} {r:ρ} (h:og v K=some r):K v=some r /\ ∀ b:Value->Option Value,og v b=b v:=by
 unfold og at h;split at h
 ·obtain ⟨a,rfl,h1⟩:=Aai.1 h;exact ⟨h1,fun b=>rfl⟩
 ·exact ⟨h,fun b=>rfl⟩
 ·exact ⟨h,fun b=>rfl⟩
 ·cases h
theorem lh {x:Operand} {call:GK} {q:Bool} {e:Operand->Option Value} {J:Aa} {K:Value->Aa->Option ρ} {r:ρ} {o:Oper} (b:o.op = .move x\/o.op = .nilCheck x)
  (h:Jv P call q o.op o.type e J K=some r):∃ v,K v J=some r/\Tp P o e v/\Qg P o e J v J:=by
 rcases b with b | b
 ·rw[b] at h;simp only[Jv] at h;obtain ⟨v,f,l⟩:=Aai.1 h;have g:Jv P call q o.op o.type e J (fun v _=>some v)=some v:=by
   rw[b];simp only[Jv,f,AI]
  obtain ⟨v2,j,k⟩:=Rb (by unfold Gh; rw[b]) g;cases j;exact ⟨v,l,k,⟨fun c d a=>(by rw[b] at a; cases a),fun c d i a=>(by rw[b] at a; cases a),fun c d i a=>(by rw[b] at a; cases a),fun c a=>(by rw[b] at a; cases a),fun d a=>(by
   rcases a with a | a
   ·rw[b] at a; cases a; exact f
   ·rw[b] at a; cases a),fun c d p s t a=>by (rw[b] at a; cases a)⟩⟩
 ·rw[b] at h;simp only[Jv] at h;obtain ⟨v,f,m⟩:=Aai.1 h;obtain ⟨l,n⟩:=xK m;have g:Jv P call q o.op o.type e J (fun v _=>some v)=some v:=by
   rw[b];simp only[Jv,f,AI];exact n _
  obtain ⟨v2,j,k⟩:=Rb (by unfold Gh; rw[b]) g;cases j;exact ⟨v,l,k,⟨fun c d a=>(by rw[b] at a; cases a),fun c d i a=>(by rw[b] at a; cases a),fun c d i a=>(by rw[b] at a; cases a),fun c a=>(by rw[b] at a; cases a),fun d a=>(by
   rcases a with a | a
   ·rw[b] at a; cases a
   ·rw[b] at a; cases a; exact f),fun c d p s t a=>by (rw[b] at a; cases a)⟩⟩
theorem Abv {call:GK} (E:VQ P call) {o:Oper} {q:Bool} {e:Operand->Option Value} {J:Aa} {K:Value->Aa->Option ρ} {r:ρ} (h:Jv P call q o.op o.type e J K=some r):
  ∃ v J',K v J'=some r/\J.length<=J'.length /\
   (∀ (a:Act) (Z:Mu) (w:World),R P Z J w->H8 Z J.length J'.length->(∀ x u,e x=some u->RV Z u (a.eval x))->ri P o a w Z J v J') /\
   (Gh P o = .pure->J'=J/\Tp P o e v)/\(Gh P o = .ld->J'=J)/\(Gh P o = .al->(∀ c,o.op ≠ .call c)\/q=true->J <+: J')/\(isApp o=true->q=true->J <+: J')/\Qg P o e J v J':=by
 have t:∀ {x:Cls},Gh P o=x->x ≠ .lo->isApp o=true->False:=by
  intro x Q U l;unfold isApp at l;split at l
  ·rename_i c d;split at l
   ·rename_i k;simp only[Gh,d,k,eu] at Q;exact U Q.symm
   ·cases l
  ·cases l
 have i:∀ {c:Cls},Gh P o=c->c ≠ .ld->c ≠ .pure -> ∀ {J J':Aa} {v:Value},(∀ T x y,o.op = .store T x y -> ∃ a,e x=some (.pointer (some a)) /\ ∀ b,b≠a.block->J'[b]?=J[b]?)->(∀ T,o.op = .alloc T -> ∃ a,v = .pointer (some a)/\a.block=J.length)->Qg P o e J v J':=by
  intro c g h1 j J J' v p H;refine ⟨fun T x d=>?_,fun T x f d=>?_,p,H,fun x d=>?_,fun T x lo hi G d=>?_⟩
  ·unfold Gh at g; rw[d] at g; exact absurd g.symm h1
  ·unfold Gh at g; rw[d] at g; exact absurd g.symm j
  ·rcases d with d | d <;> (unfold Gh at g; rw[d] at g; exact absurd g.symm j)
  ·unfold Gh at g; rw[d] at g; exact absurd g.symm h1
 cases g:Gh P o with
 | pure=>
   have main:∃ v,K v J=some r/\Tp P o e v/\Qg P o e J v J:=by
    by_cases L:∃ T x f,o.op = .fieldAddr T x f
    ·obtain ⟨T,x,f,d⟩:=L;exact kZ d h
    ·by_cases M:∃ x,o.op = .move x\/o.op = .nilCheck x
     ·obtain ⟨x,d⟩:=M;exact lh d h
     obtain ⟨v,h1,j⟩:=Rb g h;exact ⟨v,h1,j,Zz (fun T x d=>by unfold Gh at g; rw[d] at g; cases g) (fun T x f d=>L ⟨T,x,f,d⟩) (fun T x y d=>by unfold Gh at g; rw[d] at g; cases g) (fun T d=>by unfold Gh at g; rw[d] at g; cases g) (fun x d=>M ⟨x,d⟩) (fun T x lo hi G d=>by unfold Gh at g; rw[d] at g; cases g)⟩
   obtain ⟨v,h1,j,p⟩:=main;exact ⟨v,J,h1,Aa1 _,fun a Z w C s he=>iO j C he,fun _=>⟨rfl,j⟩,(fun h=>by (cases h)),(fun h=>by (cases h)),fun h=>(t g (by decide) h).elim,p⟩
 | ld=>
   have main:∃ v,K v J=some r/\WR P o e J v/\Qg P o e J v J:=by
    by_cases V:∃ T x,o.op = .load T x
    ·obtain ⟨T,x,d⟩:=V;rw[d] at h;exact eX d h
    ·by_cases hs:∃ T x lo hi G,o.op = .slice T x lo hi G
     ·obtain ⟨T,x,lo,hi,G,d⟩:=hs;exact lu d h
     obtain ⟨v,h1,j⟩:=iP g h;exact ⟨v,h1,j,Zz (fun T x d=>V ⟨T,x,d⟩) (fun T x f d=>by unfold Gh at g; rw[d] at g; cases g) (fun T x y d=>by unfold Gh at g; rw[d] at g; cases g) (fun T d=>by unfold Gh at g; rw[d] at g; cases g) (fun x d=>by rcases d with d | d <;> (unfold Gh at g; rw[d] at g; cases g)) (fun T x lo hi G d=>hs ⟨T,x,lo,hi,G,d⟩)⟩
   obtain ⟨v,h1,j,p⟩:=main;exact ⟨v,J,h1,Aa1 _,fun a Z w C s he=>ou j C he,(fun h=>by (cases h)),fun _=>rfl,(fun h=>by (cases h)),fun h=>(t g (by decide) h).elim,p⟩
 | al=>
   have I:=g;by_cases N:∀ c,o.op ≠ .call c
   ·obtain ⟨v,x,h1,j,p⟩:=xN g N h;exact ⟨v,J++[x],h1,by simp,fun a Z w C s he=>PW (j Z w a.eval C s he),fun h=>by (cases h),fun h=>by (cases h),fun _ _=>⟨[x],rfl⟩,fun h=>(t g (by decide) h).elim,i g (by decide) (by decide) (fun T x y d=>by unfold Gh at g; rw[d] at g; cases g) p⟩
   ·have:∃ c,o.op = .call c:=by
     apply Adv;intro F;exact N fun c g=>F ⟨c,g⟩
    obtain ⟨c,d⟩:=this;cases k:c.callee with
    | builtin b=>
      simp only[Gh,d,k] at g;cases b <;> cases hm:Ul P c.argTypes.toList <;> simp[hm,eu] at g
    | invoke r m=>rw[d] at h; simp only[Jv,k] at h; cases h
    | value W=>
      rw[d] at h;obtain ⟨v,J',h1,j,p,H⟩:=vi E d k h;refine ⟨v,J',h1,j,H,fun h=>by (cases h),fun h=>by (cases h),fun _ F=>?_,fun h=>(t I (by decide) h).elim,i I (by decide) (by decide) (fun T x y n=>by (rw[d] at n; cases n)) (fun T n=>by (rw[d] at n; cases n))⟩;rcases F with F | F
      ·exact absurd d (F c)
      ·exact p F
 | lo=>
   have main:∃ v J',K v J'=some r/\J.length<=J'.length/\re P o e J v J'/\(isApp o=true->q=true->J <+: J')/\(∀ T x y,o.op = .store T x y -> ∃ a,e x=some (.pointer (some a)) /\ ∀ b,b≠a.block->J'[b]?=J[b]?):=by
    have O:∀ {x:Op},o.op=x->(∀ c,x ≠ .call c)->isApp o=true->False:=by
     intro x Q g l;unfold isApp at l;split at l
     ·rename_i c d;exact g c (Q.symm.trans d)
     ·cases l
    cases d:o.op
    case store=>
     rw[d] at h;obtain ⟨v,J',z,A,B,S⟩:=sJ d h;exact ⟨v,J',z,A,B,fun l=>(O d (by intro c g; cases g) l).elim,fun T x y n=>by cases n; exact S⟩
    case mapUpdate=>
     rw[d] at h;obtain ⟨v,J',z,A,B⟩:=eY d h;exact ⟨v,J',z,A,B,fun l=>(O d (by intro c g; cases g) l).elim,fun T x y n=>by cases n⟩
    case call c=>
     rw[d] at h;simp only[Gh,d] at g;split at g
     ·rename_i b hb;by_cases D:b = .append
      ·subst D;obtain ⟨v,J',z,A,B,S⟩:=ow d hb h;exact ⟨v,J',z,A,B,fun _=>S,fun T x y n=>by cases n⟩
      ·obtain ⟨v,J',z,A,B⟩:=cS d hb D g h;exact ⟨v,J',z,A,B,fun l=>absurd (zA d hb l) D,fun T x y n=>by cases n⟩
     ·cases g
    all_goals (simp[Gh,d] at g)
   obtain ⟨v,J',h1,j,p,H,h5⟩:=main;exact ⟨v,J',h1,j,fun a Z w C s he=>PW (p Z w a.eval C s he),fun h=>by (cases h),fun h=>by (cases h),fun h=>by (cases h),H,i g (by decide) (by decide) h5 (fun T d=>by unfold Gh at g; rw[d] at g; cases g)⟩
end
section
variable {ρ:Type} {P:Program} [AJ]
def Lj (E regs:Bo):Prop:=∀ (t:Nat) (v:Value),regs.getD t none=some v->E.getD t none=some v
theorem Lj.refl (E:Bo):Lj E E:=fun _ _ h=>h
theorem Lj.trans {a b c:Bo} (h:Lj a b) (g:Lj b c):Lj a c:=fun t v e=>h t v (g t v e)
theorem JX (regs:Bo) (d t:Nat) (v:Option Value):(regs.set d v).getD t none=if d=t/\d<regs.length then v else regs.getD t none:=by
 simp only[Aax,Aed];by_cases h:d=t
 ·subst h;by_cases a:d<regs.length
  ·simp[a]
  ·simp[a]
 ·simp[h]
theorem Lj.put {E regs:Bo} (h:Lj E regs) (b:regs.length=E.length) (d:Option Nat) (v:Option Value):Lj (KC E d v) (KC regs d v):=by
 cases d with
 | none=>exact h
 | some d=>
   intro t u;simp only[KC,JX];by_cases a:d=t/\d<regs.length
   ·rw[Aay a,Aay (by rw[<- b]; exact a)]; exact id
   ·rw[Aaz a,Aaz (by rw[<- b]; exact a)]; exact h t u
theorem EO (regs:Bo) (d:Option Nat) (v:Option Value):(KC regs d v).length=regs.length:=by
 cases d <;> simp[KC]
theorem uH {E regs:Bo} (h:Lj E regs) {x:Operand} {u:Value} (a:iG regs x=some u):iG E x=some u:=by
 cases x with
 | tmp t=>exact h t u a
 | const v=>exact a
 | global g=>exact a
 | func f=>exact a
theorem WB {all:List Oper} {E regs:Bo} (h:Lj E regs) {j:Nat} {u:Value} (a:Ol all regs j=some u):Ol all E j=some u:=by
 unfold Ol at a ⊢;split at a
 ·exact h _ u a
 ·cases a
theorem QS {e a:Operand->Option Value}:∀ {xs:List Operand} {K:List Value->Option ρ},(∀ x ∈ xs,e x=a x)->wB e xs K=wB a xs K
 | [],K,_=>rfl
 | x::xs,K,h=>by
   simp only[wB];rw[h x (by simp)];congr 1; funext v;exact QS fun y b=>h y (by simp[b])
theorem Yt {e a:Operand->Option Value}:∀ {xs:List (Nat × Operand)} {K:List (Nat × Value)->Option ρ},(∀ p ∈ xs,e p.2=a p.2)->yB e xs K=yB a xs K
 | [],K,_=>rfl
 | (i,x)::xs,K,h=>by
   simp only[yB];rw[h (i,x) (by simp)];congr 1; funext v;exact Yt fun y b=>h y (by simp[b])
theorem Ys {e a:Operand->Option Value} {x:Option Operand} {K:Option Value->Option ρ} (h:∀ y,x=some y->e y=a y):tD e x K=tD a x K:=by
 cases x with
 | none=>rfl
 | some y=>simp only[tD]; rw[h y rfl]
theorem sG {call:GK} {q:Bool} {op:Op} {ty:TypeId} {e g:Operand->Option Value} {J:Aa} {K:Value->Aa->Option ρ} (h:∀ x ∈ op.operands,e x=g x):Jv P call q op ty e J K=Jv P call q op ty g J K:=by
 cases op <;> simp only[Op.operands] at h <;> simp only[Jv]
 case build t ps=>congr 1; funext z; exact Yt fun p hp=>h p.2 (by simpa using ⟨p.1,by simpa using hp⟩)
 case buildSlice t n ps=>congr 1; funext E; congr 1; congr 1; funext z; exact Yt fun p hp=>h p.2 (by simpa using ⟨p.1,by simpa using hp⟩)
 case makeFunc fn first captured=>
  split
  ·rfl
  rw[QS (xs:=first.toList) fun x a=>h x (by simp at a; simp[a])];congr 1; funext vs;exact QS fun x a=>h x (by simp at a; simp[a])
 case call c=>
  cases i:c.callee with
  | builtin b=>simp only; exact QS fun x a=>h x (by simp at a; simp[Call.operands,a])
  | invoke r m=>rfl
  | value f=>
    simp only;rw[h f (by simp[Call.operands,i])];congr 1; funext fv;exact QS fun x a=>h x (by simp at a; simp[Call.operands,a])
 case slice t x lo hi mx=>
  congr 1; funext E; congr 1; funext s;rw[h x (by simp)];congr 1; funext v;rw[Ys fun y d=>h y (by simp[d])];congr 1; funext lo';rw[Ys fun y d=>h y (by simp[d])];congr 1; funext hi';rw[Ys fun y d=>h y (by simp[d])]
 case makeMap t r=>cases r <;> rfl
 all_goals (first | rfl | (simp_all; done))
open Classical in
def VK (o:Oper) (e:Operand->Option Value):Operand->Option Value:=fun x=>if x ∈ o.op.operands then e x else none
theorem KE {o:Oper} {e:Operand->Option Value} {x:Operand} {u:Value} (h:VK o e x=some u):x ∈ o.op.operands/\e x=some u:=by
 unfold VK at h;split at h
 ·exact ⟨‹_›,h⟩
 ·cases h
theorem sH {call:GK} {q:Bool} {o:Oper} {ty:TypeId} {e:Operand->Option Value} {J:Aa} {K:Value->Aa->Option ρ}:Jv P call q o.op ty e J K=Jv P call q o.op ty (VK o e) J K:=
 sG fun x a=>by unfold VK; rw[Aay a]
structure aj (P:Program) (o:Oper) (q:Bool) (e:Operand->Option Value) (J:Aa) (v:Value) (J':Aa):Prop where
 len:J.length<=J'.length
 wp:∀ (a:Act) (Z:Mu) (w:World),R P Z J w->H8 Z J.length J'.length->(∀ x u,e x=some u->RV Z u (a.eval x))->ri P o a w Z J v J'
 pure:Gh P o = .pure->J'=J/\Tp P o e v
 ld:Gh P o = .ld->J'=J
 al:Gh P o = .al->(∀ c,o.op ≠ .call c)\/q=true->J <+: J'
 app:isApp o=true->q=true->J <+: J'
 more:Qg P o e J v J'
def yes (all:List Oper) (o:Oper) (regs:Bo):Prop:=
 match o.guard with
 | none=>True
 | some (j,want)=>Ol all regs j=some (.bool want)
def no (all:List Oper) (o:Oper) (regs:Bo):Prop:=
 ∃ j want,o.guard=some (j,want)/\((∃ b,Ol all regs j=some (.bool b)/\b≠want)\/Ol all regs j=some undef)
inductive Tr (P:Program) (qf:Nat->QF) (all:List Oper):List (Nat × Oper)->Bo->Aa->Bo->Aa->Prop
 | nil {E:Bo} {J:Aa}:Tr P qf all [] E J E J
 | step {i:Nat} {o:Oper} {rest:List (Nat × Oper)} {E regs E':Bo} {J J1_ J':Aa} {v:Value} (hw:Lj E regs) (hy:yes all o regs) (hf:aj P o (qf i).1 (VK o (iG regs)) J v J1_) (hk:Kept (qf i).2 E J J1_)
   (ht:Tr P qf all rest (KC E o.dst (some v)) J1_ E' J'):Tr P qf all ((i,o)::rest) E J E' J'
 | skip {i:Nat} {o:Oper} {rest:List (Nat × Oper)} {E regs E':Bo} {J J':Aa} (hw:Lj E regs) (hn:no all o regs) (ht:Tr P qf all rest (KC E o.dst (some undef)) J E' J'):Tr P qf all ((i,o)::rest) E J E' J'
theorem Tr.append {qf:Nat->QF} {all:List Oper} {a b:List (Nat × Oper)} {E E1 d:Bo} {J J1_ J2_:Aa} (h:Tr P qf all a E J E1 J1_) (g:Tr P qf all b E1 J1_ d J2_):Tr P qf all (a++b) E J d J2_:=by
 induction h with
 | nil=>exact g
 | step hw k e f j c=>exact .step hw k e f (c g)
 | skip hw i j c=>exact .skip hw i (c g)
theorem Tr.len {qf:Nat->QF} {all:List Oper} {a:List (Nat × Oper)} {E E1:Bo} {J J1_:Aa} (h:Tr P qf all a E J E1 J1_):J.length<=J1_.length/\E1.length=E.length:=by
 induction h with
 | nil=>exact ⟨Aa1 _,rfl⟩
 | step hw g c e d b=>exact ⟨Adt c.len b.1,by rw[b.2,EO]⟩
 | skip hw f d b=>exact ⟨b.1,by rw[b.2,EO]⟩
theorem LI {regs:Bo} {d:Option Nat} {v:Option Value} {t:Nat} (h:d≠some t):(KC regs d v).getD t none=regs.getD t none:=by
 cases d with
 | none=>rfl
 | some d=>
   simp only[KC,JX];rw[Aaz];rintro ⟨rfl,_⟩; exact h rfl
theorem Tr.other {qf:Nat->QF} {all:List Oper} {a:List (Nat × Oper)} {E E1:Bo} {J J1_:Aa} (h:Tr P qf all a E J E1 J1_) {t:Nat} (d:∀ io ∈ a,io.2.dst≠some t):E1.getD t none=E.getD t none:=by
 induction h with
 | nil=>rfl
 | @step i o rest E c E' J J1_ J' v hw j f _ _ e=>exact (e fun io b=>d io (by simp[b])).trans (LI (d (i,o) (by simp)))
 | @skip i o rest E c E' J J' hw g _ e=>exact (e fun io b=>d io (by simp[b])).trans (LI (d (i,o) (by simp)))
theorem Xk {t:Nat} {v:Value}:∀ {ops:List (Nat × Oper)} {a:Bo},(N0 a ops).getD t none=some v->a.getD t none=some v /\ ∀ io ∈ ops,io.2.dst=some t->¬ t<a.length
 | [],a,h=>⟨h,by simp⟩
 | io::rest,a,h=>by
   simp only[N0] at h;obtain ⟨h1,f⟩:=Xk h;by_cases hd:io.2.dst=some t
   ·rw[hd] at h1;simp only[KC,JX] at h1;by_cases e:t<a.length
    ·simp[e] at h1
    ·rw[Aaz (by simp[e])] at h1;refine ⟨h1,fun d b c=>?_⟩;exact e
   ·rw[LI hd] at h1;refine ⟨h1,fun d b c=>?_⟩;rcases Acd.1 b with rfl | b
    ·exact absurd c hd
    ·have:=f d b c; rwa [EO] at this
theorem dF {qf:Nat->QF} {all:List Oper}:∀ {ops:List (Nat × Oper)} {c a E:Bo} (J:Aa),Sk all ops c=some a->Lj E c->c.length=E.length -> ∃ E',Tr P qf all ops E J E' J/\Lj E' a/\a.length=E'.length
 | [],c,a,E,J,h,hw,e=>by
   simp[Sk] at h; subst h; exact ⟨E,.nil,hw,e⟩
 | io::rest,c,a,E,J,h,hw,e=>by
   simp only[Sk] at h;split at h
   ·cases h
   ·rename_i j want i;have done:no all io.2 c->Sk all rest (KC c io.2.dst (some undef))=some a -> ∃ E',Tr P qf all (io::rest) E J E' J/\Lj E' a/\a.length=E'.length:=by
     intro n h;obtain ⟨E',h1,k,m⟩:=dF J h (hw.put e _ _) (by rw[EO,EO]; exact e);exact ⟨E',.skip hw n h1,k,m⟩
    split at h
    ·rename_i b f;cases d:(b == want) with
     | true=>rw[d] at h; cases h
     | false=>
       rw[d] at h;exact done ⟨j,want,i,.inl ⟨b,f,by simpa using d⟩⟩ h
    ·rename_i g f;cases he:g.toList.isEmpty with
     | false=>rw[he] at h; cases h
     | true=>
       rw[he] at h;refine done ⟨j,want,i,.inr ?_⟩ h;have:g = #[]:=by
        cases g with
        | mk l=>cases l <;> simp_all
       rw[f,this]; rfl
    ·cases h
theorem mJ {all:List Oper} {E regs:Bo} {j:Nat} {b:Bool} (hw:Lj E regs) (h:Ol all regs j=some (.bool b)):Lj E (KC regs (QQ all j) (some (.bool b))):=by
 unfold Ol at h;split at h
 ·rename_i d hd;rw[hd];intro t v;simp only[KC,JX];split
  ·rename_i a;intro c;rw[<- a.1];rw[<- c];exact hw _ _ h
  ·exact hw t v
 ·cases h
theorem Rf {call:GK} (i:VQ P call) {qf:Nat->QF} {all:List Oper}:∀ (fuel:Nat) {ρ:Type} {known:List (Nat × Bool)} {ops:List (Nat × Oper)} {f E:Bo} {J:Aa} {K:Bo->Aa->Option ρ} {r:ρ},
  Lo P call qf all fuel ρ known ops f J K=some r->Lj E f->f.length=E.length -> ∃ e E' J',Tr P qf all ops E J E' J'/\Lj E' e/\e.length=E'.length/\K e J'=some r
 | 0,ρ,known,ops,f,E,J,K,r,h,hw,u=>by simp[Lo] at h
 | fuel+1,ρ,known,ops,f,E,J,K,r,h,hw,u=>by
   cases ops with
   | nil=>simp only[Lo] at h; exact ⟨f,E,J,.nil,hw,u,h⟩
   | cons io rest=>
     have one:yes all io.2 f->(Jv P call (qf io.1).1 io.2.op io.2.type (iG f) J fun v J'=>Um (qf io.1).2 f J J' (Lo P call qf all fuel ρ known rest (KC f io.2.dst (some v)) J' K))=some r ->
       ∃ e E' J',Tr P qf all (io::rest) E J E' J'/\Lj E' e/\e.length=E'.length/\K e J'=some r:=by
      intro W h;rw[sH] at h;obtain ⟨v,J1_,h1,L,h3,h4,h5,M⟩:=Abv i h;obtain ⟨h1,G⟩:=PT h1;obtain ⟨e,E',J',o,q,B,s⟩:=Rf i fuel h1 (hw.put u _ _) (by rw[EO,EO]; exact u);exact ⟨e,E',J',.step hw W ⟨L,h3,h4,h5,M.1,M.2.1,M.2.2⟩ (fun t ht=>Or.imp (fun ⟨a,C⟩=>⟨a,hw t _ C.1,C.2⟩) (fun ⟨a,l,c,C⟩=>⟨a,l,c,hw t _ C.1,C.2⟩) (G t ht)) o,q,B,s⟩
     simp only[Lo] at h;split at h
     ·rename_i Q;exact one (by unfold yes; rw[Q]; trivial) h
     ·rename_i j want Q;cases G:known.contains (j,want) with
      | true=>
        rw[G] at h;simp only[IS] at h;split at h
        ·rename_i b H;cases k:(b == want) with
         | false=>rw[k] at h; cases h
         | true=>
           rw[k] at h;have:b=want:=by simpa using k
           subst this;exact one (by unfold yes; rw[Q]; exact H) h
        ·cases h
      | false=>
        rw[G] at h;simp only[By] at h;split at h
        ·cases h
        ·rename_i body p after S;have n:=Sm S;simp only at n;split at h
         ·rename_i b H;simp only[Aai] at h;obtain ⟨⟨rb,J1_⟩,h1,L⟩:=h;rw[vK] at h1;have I:∃ m E1,Tr P qf all (io::(body++[p])) E J E1 J1_/\Lj E1 m/\(p.2.dst.bind fun d=>m.getD d none)=some (.bool rb):=by
           have fin:∀ (e:Bo) (J':Aa),(((p.2.dst.bind fun d=>e.getD d none).bind Dl).bind fun r=>some (r,J'))=some (rb,J1_)->(p.2.dst.bind fun d=>e.getD d none)=some (.bool rb)/\J'=J1_:=by
            intro e J' hq;rw[Aai] at hq;obtain ⟨x,hx,V⟩:=hq;rw[Aai] at hx;obtain ⟨y,W,D⟩:=hx;cases V;refine ⟨?_,rfl⟩;rw[W];cases y <;> simp[Dl] at D;rw[D]
           cases k:(b == want) with
           | true=>
             rw[k] at h1;simp only[IS] at h1;have:b=want:=by simpa using k
             subst this;obtain ⟨e,E',J',o,q,B,s⟩:=Rf i fuel h1 (mJ hw H) (by rw[EO]; exact u);obtain ⟨Y,rfl⟩:=fin _ _ s;exact ⟨e,E',o,q,Y⟩
           | false=>
             rw[k] at h1;simp only[By,Aai] at h1;obtain ⟨aa,hs,h1⟩:=h1;have:b = !want:=by
              have:b≠want:=by simpa using k
              cases b <;> cases want <;> simp_all
             subst this;obtain ⟨E2,s1,s2,s3⟩:=dF (P:=P) (qf:=qf) J hs (mJ hw H) (by rw[EO]; exact u);obtain ⟨e,E',J',o,q,B,s⟩:=Rf i fuel h1 s2 s3;obtain ⟨Y,rfl⟩:=fin _ _ s;exact ⟨e,E',s1.append o,q,Y⟩
          obtain ⟨m,E1,t1,t2,t3⟩:=I;have N:=t1.len.2;have U:Lj E1 (KC (N0 f (io::body)) p.2.dst (some (.bool rb))):=by
           cases z:p.2.dst with
           | none=>rw[z] at t3; cases t3
           | some pd=>
             rw[z] at t3;simp only[AI] at t3;intro t v;simp only[KC,JX];split
             ·rename_i O;intro T; cases T;rw[<- O.1]; exact t2 _ _ t3
             ·rename_i O;intro T;obtain ⟨Z,m2⟩:=Xk T;have A:t<f.length:=by
               rcases Ael t f.length with h | h
               ·exact h
               ·rw[Aax,Adr h] at Z; cases Z
              rw[t1.other]
              ·exact hw _ _ Z
              ·intro F g hd;rcases Acd.1 g with rfl | g
               ·exact m2 F (by simp) hd A
               ·rcases Aas.1 g with g | g
                ·exact m2 F (by simp[g]) hd A
                ·simp at g; subst g;rw[z] at hd; cases hd;apply O;refine ⟨rfl, ?_⟩;have:∀ (l:List (Nat × Oper)) (r:Bo),(N0 r l).length=r.length:=by
                  intro l
                  induction l with
                  | nil=>intro r; rfl
                  | cons a l X=>intro r; simp only[N0]; rw[X,EO]
                 rw[this]; exact A
          have w:(KC (N0 f (io::body)) p.2.dst (some (.bool rb))).length=E1.length:=by
           have:∀ (l:List (Nat × Oper)) (r:Bo),(N0 r l).length=r.length:=by
            intro l
            induction l with
            | nil=>intro r; rfl
            | cons a l X=>intro r; simp only[N0]; rw[X,EO]
           rw[EO,this,N]; exact u
          obtain ⟨e,E',J',o,q,B,s⟩:=Rf i fuel L U w;refine ⟨e,E',J', ?_,q,B,s⟩;rw[n];have:=t1.append o;simpa using this
         ·cases h
end
section
variable {ρ:Type} {P:Program} [AJ]
theorem LO.w8 {Z:Mu} {E regs:Bo} {tmps:Array Value} (h:LO Z E tmps) (hw:Lj E regs) (a:regs.length<=E.length):LO Z regs tmps:=
 ⟨Adt a h.1,fun t v b=>h.2 t v (hw t v b)⟩
theorem Xy (a:Act) (d:Option Tmp) (v:Value):(a.put d v).tmps.size=a.tmps.size:=by
 cases d <;> simp[Act.put]
theorem N1 {a:Act} {d:Option Tmp} {v:Value} {t:Nat} (h:d≠some t):(a.put d v).tmps[t]?=a.tmps[t]?:=by
 cases d with
 | none=>rfl
 | some d=>
   simp only[Act.put,Aff];rw[Aaz (by rintro rfl; exact h rfl)]
theorem LO.put {Z:Mu} {regs:Bo} {a:Act} (h:LO Z regs a.tmps) (d:Option Nat) {v v':Value} (j:RV Z v v'):LO Z (KC regs d (some v)) (a.put d v').tmps:=by
 refine ⟨by rw[EO,Xy]; exact h.1,fun t u b=>?_⟩;cases d with
 | none=>exact h.2 t u b
 | some d=>
   simp only[KC,JX] at b;simp only[Act.put,Aff];split at b
   ·rename_i e;cases b;have f:d<a.tmps.size:=Acp e.2 h.1;rw[Aay e.1,Aay f];exact ⟨v',rfl,j⟩
   ·rename_i e;obtain ⟨w,g,i⟩:=h.2 t u b;by_cases c:d=t
    ·subst c;have:d<regs.length:=by
      rcases Ael d regs.length with h | h
      ·exact h
      ·rw[Aax,Adr h] at b; cases b
     exact absurd ⟨rfl,this⟩ e
    ·rw[Aaz c]; exact ⟨w,g,i⟩
theorem LO.ev {Z:Mu} {regs:Bo} {a:Act} (h:LO Z regs a.tmps):∀ x u,iG regs x=some u->RV Z u (a.eval x):=by
 intro x u b;cases x with
 | tmp t=>
   obtain ⟨e,h1,c⟩:=h.2 t u b;simp only[Act.eval,Af4,h1,Afs];exact c
 | const v=>
   simp only[iG] at b;split at b
   ·cases b; exact .IX ‹_›
   ·cases b
 | global g=>cases b
 | func f=>
   cases b;exact .func (fun l d=>by cases d) .nil .nil
theorem oW {Z:Mu} {all:Array Oper} {o:Oper} {regs:Bo} {tmps:Array Value} (h:yes all.toList o regs) (c:LO Z regs tmps):Region.wanted o (yielded all tmps)=true:=by
 unfold yes at h;unfold Region.wanted;split at h
 ·rename_i a; rw[a]
 ·rename_i j want a;rw[a];unfold Ol at h;split at h
  ·rename_i d hd;obtain ⟨e,h1,b⟩:=c.2 _ _ h;cases b;unfold QQ at hd;simp only[Afa] at hd;simp only[yielded,hd,AI,h1];simp
  ·cases h
theorem sB {Z:Mu} {all:Array Oper} {o:Oper} {regs:Bo} {tmps:Array Value} (h:no all.toList o regs) (c:LO Z regs tmps):Region.wanted o (yielded all tmps)=false:=by
 obtain ⟨j,want,e,h⟩:=h;unfold Region.wanted;rw[e];rcases h with ⟨b,h,hb⟩ | h
 ·unfold Ol at h;split at h
  ·rename_i d hd;obtain ⟨f,h1,a⟩:=c.2 _ _ h;cases a;unfold QQ at hd;simp only[Afa] at hd;simp only[yielded,hd,AI,h1];simpa using hb
  ·cases h
 ·unfold Ol at h;split at h
  ·rename_i d hd;obtain ⟨f,h1,a⟩:=c.2 _ _ h;unfold undef at a;cases a;unfold QQ at hd;simp only[Afa] at hd;simp only[yielded,hd,AI,h1];rfl
  ·cases h
theorem Ab0 {ro:Option Nat} {nn:Nat} {qf:Nat->QF} {all:Array Oper} {Q:Exit->Act->World->Prop} {hi:Nat}:∀ {ops:List (Nat × Oper)} {E E':Bo} {J J':Aa},Tr P qf all.toList ops E J E' J'->(∀ io ∈ ops,all[io.1]?=some io.2)->J'.length<=hi ->
  ∀ (a:Act) (Z:Mu) (w:World),R P Z J w->H8 Z J.length hi->LO Z E a.tmps ->
   (∀ (m:Act) (p:Mu) (w':World),R P p J' w'->Step Z J w p J' w'->LO p E' m.tmps->m.defers=a.defers->m.tmps.size=a.tmps.size->(∀ t,(∀ io ∈ ops,io.2.dst≠some t)->m.tmps[t]?=a.tmps[t]?)->Q .normal m w') ->
   wpOpsIn (FW ro) nn P all Q (ops.map (·.1)) a w:=by
 intro ops E E' J J' h
 induction h with
 | nil=>
   intro _ n a Z w A g c z;exact z a Z w A (Step.refl _ _ _) c rfl rfl fun _ _=>rfl
 | @step i o rest E regs E' J J1_ J' v hw F I S H G=>
   intro d n a Z w A g c z;have D:all[i]?=some o:=d (i,o) (by simp);have hlen:=H.len.1;simp only[Aek,wpOpsIn,D];rw[Aay (oW (regs:=E) (by
    unfold yes at F ⊢;split at F
    ·trivial
    ·exact WB hw F) c)];refine I.wp a Z w A (g.sub (Aa1 _) (by omega)) (fun x u N=>c.ev x u (uH hw (KE N).2)) _ _ _ _ ?_;intro Z1_ v1 O M B s;have hle:=s.le (g.sub (Aa1 _) (by omega));refine G (fun io e=>d io (by simp[e])) n (a.put o.dst v1) Z1_ O B (g.step s) ((c.mono hle).put _ M) ?_;intro m p w' q r f hd y k;refine z m p w' q (s.trans r) f (by rw[hd]; cases o.dst <;> rfl) (by rw[y,Xy]) ?_;intro t l;rw[k t fun io e=>l io (by simp[e]),N1 (l (i,o) (by simp))]
 | @skip i o rest E regs E' J J' hw L H G=>
   intro d n a Z w A g c z;have D:all[i]?=some o:=d (i,o) (by simp);simp only[Aek,wpOpsIn,D];have C:no all.toList o E:=by
    obtain ⟨j,want,K,h⟩:=L;refine ⟨j,want,K, ?_⟩;rcases h with ⟨b,h,hb⟩ | h
    ·exact .inl ⟨b,WB hw h,hb⟩
    ·exact .inr (WB hw h)
   rw[sB C c];simp only[Ab8,Aa5];refine ⟨fun _ _=>trivial, ?_⟩;refine G (fun io e=>d io (by simp[e])) n (a.put o.dst undef) Z w A g (c.put _ Ri) ?_;intro m p w' q r f hd y k;refine z m p w' q r f (by rw[hd]; cases o.dst <;> rfl) (by rw[y,Xy]) ?_;intro t l;rw[k t fun io e=>l io (by simp[e]),N1 (l (i,o) (by simp))]
end
end
end Go.AX
