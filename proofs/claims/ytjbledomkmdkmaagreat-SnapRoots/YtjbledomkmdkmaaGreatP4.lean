/- An operation's walk, in a round's frame too: every operation but a defer is carried out there as anywhere.; Functions without stores only add to memor -/
import Derived.RangeFuncCalls
import Derived.OrdersIn
import Derived.TacticsIn
import Derived.Test.YtjbledomkmdkmaaGreatP3
set_option linter.unusedVariables false
set_option linter.unusedSimpArgs false
set_option linter.unusedSectionVars false
namespace Go.AX
open Go
noncomputable section
section
variable {P:Program}
abbrev FW (r:Option Nat):Fence:={ Fence.wide with round:=r }
theorem jO {r:Option Nat} {n:Nat} {f:FuncId} {args:Array Value} {w:World} {R:Ending->World->Prop} (h:Calls P f args w R):CallsIn (FW r) n P f args w R:=by
 have h1:CallsIn Fence.wide n P f args w R:=callsIn_wide.2 h;cases r with
 | none=>exact h1
 | some l=>exact CallsIn.inRound l h1
theorem uI {r:Option Nat} {n:Nat} {row:String} {args:Array Value} {w:World} {R:Value->World->Prop} (h:Rows P row args w R):RowsIn (FW r) n P row args w R:=by
 have h1:RowsIn Fence.wide n P row args w R:=fun c cs _=>let ⟨v,w',x,s⟩:=h c cs; ⟨v,w',x,stepsIn_wide.2 s⟩;cases r with
 | none=>exact h1
 | some l=>exact h1
theorem LX {r:Option Nat} {n:Nat} {o:Oper} {a:Act} {w:World} {next:Act->World->Prop} {Q:Exit->Act->World->Prop} (hd:∀ c,o.op ≠ .defer c) (h:o.wp P a w next Q):o.wpIn (FW r) n P a w next Q:=by
 refine ⟨fun _ _=>trivial, ?_⟩;rw[show (FW r).round=r from rfl,Oper.semAt_eq r a.eval o hd];unfold Oper.wp at h;generalize (execOp a.eval o).run P w=res at h ⊢;unfold Oper.upon at h;unfold Oper.uponIn;split at h
 ·exact h
 ·exact h
 ·exact h
 ·refine ⟨fun hh=>(by cases hh),(jO h).mono ?_⟩;intro e w' he;cases e <;> exact he
 ·exact ⟨fun hh=>(by cases hh),uI h⟩
 ·exact h
 ·exact h.elim
theorem N8 {o:Oper} {a:Act} {w w':World} {x:Next} (h:(execOp a.eval o).run P w = .ok x w') (hn:∀ d,x ≠ .defer d):∀ c,o.op ≠ .defer c:=by
 intro c hc;unfold execOp at h;rw[hc] at h;simp only[za] at h;cases hr:(resolve a.eval c o.type).run P w with
 | ok d w1=>
   rw[hr] at h;simp only[y9,zf,Result.ok.injEq] at h;exact hn _ h.1.symm
 | halt y w1=>
   rw[hr] at h;simp[Result.andThen] at h
end
section
variable {ρ:Type} {P:Program} [AA]
theorem Qs {dj:Option Nat} {known:List (Nat × Bool)}:∀ {l:List (Nat × Oper)} {x:List (Nat × Oper) × (Nat × Oper) × List (Nat × Oper)},P9 dj known l=some x->l=x.1++x.2.1::x.2.2
 | [],x,h=>by simp[P9] at h
 | io::rest,x,h=>by
   simp only[P9] at h;cases hp:pf dj known io.2 with
   | true=>rw[hp] at h; simp at h; subst h; rfl
   | false=>
     rw[hp] at h;simp only[By,Option.map_eq_some_iff] at h;obtain ⟨y,hy,rfl⟩:=h;rw[Qs hy]; rfl
theorem qw {α:Type} (want b:Bool) (x y:α):xr want b x y=bif b == want then x else y:=by cases want <;> cases b <;> rfl
theorem cH {J J':Aa} {m:Option ρ} {r:ρ} (h:G9 J J' m=some r):J <+: J'/\m=some r:=by
 unfold G9 at h;cases hq:AA.q J J' with
 | true=>rw[hq] at h; exact ⟨AA.ok hq,h⟩
 | false=>rw[hq] at h; cases h
theorem pM {S:FuncId->Bool} {call:Gc} (hcall:∀ f args J v J',S f=true->call f args J=some (v,J')->J <+: J') {q:Bool} {o:Oper} {regs:Bc} {J:Aa} {K:Value->Aa->Option ρ} {r:ρ}
  (ha:Wf P S o=true) (h:Ii P call q o.op o.type (cf regs) J K=some r):∃ v J',K v J'=some r/\J <+: J':=by
 by_cases hnc:∀ c,o.op ≠ .call c
 ·cases hc:F6 P o with
  | pure=>obtain ⟨v,h1,_⟩:=Po hc h; exact ⟨v,J,h1,Aao⟩
  | ld=>obtain ⟨v,h1,_⟩:=cw hc h; exact ⟨v,J,h1,Aao⟩
  | al=>obtain ⟨v,x,h1,_⟩:=iU hc hnc h; exact ⟨v,J++[x],h1,⟨[x],rfl⟩⟩
  | lo=>
    unfold Wf at ha;split at ha
    ·rename_i c ho; exact absurd ho (hnc c)
    ·rw[hc] at ha; cases ha
 ·have:∃ c,o.op = .call c:=by
   apply zk;intro hq;exact hnc fun c hc=>hq ⟨c,hc⟩
  obtain ⟨c,ho⟩:=this;simp only[Wf,ho] at ha;split at ha
  ·rename_i f hcal;rw[ho] at h;simp only[Ii,hcal,IS,cf] at h;obtain ⟨fv,hfv,h⟩:=h;cases hfv;obtain ⟨vs,h1,_⟩:=Lq h;clear h;simp only[IS] at h1;obtain ⟨⟨v,J'⟩,hcl,h1⟩:=h1;have hp:J <+: J':=hcall f _ J v J' ha (cq hcl).2;cases hb:(q && !jP P (.func (.func f) #[] #[])) with
   | true=>
     rw[hb] at h1;simp only[Mt,IT] at h1;exact ⟨v,J',PH (cH h1).2,hp⟩
   | false=>
     rw[hb] at h1;simp only[Mt,By] at h1;exact ⟨v,J',PH h1,hp⟩
  ·rename_i b hcal;cases hc:F6 P o with
   | pure=>obtain ⟨v,h1,_⟩:=Po hc h; exact ⟨v,J,h1,Aao⟩
   | ld=>obtain ⟨v,h1,_⟩:=cw hc h; exact ⟨v,J,h1,Aao⟩
   | al=>
     simp only[F6,ho,hcal] at hc;cases b <;> cases hm:RQ P c.argTypes.toList <;> simp[hm,ZO] at hc
   | lo=>rw[hc] at ha; cases ha
  ·cases ha
theorem iH {a:Option Addr} {J J':Aa} {m:Option ρ} {r:ρ} (h:Km a J J' m=some r):m=some r /\ ∀ b,a=some b->J'[b.block]?=J[b.block]?:=by
 cases a with
 | none=>exact ⟨h,fun b e=>by cases e⟩
 | some b=>
   unfold Km at h;simp only at h;cases hk:AA.k J J' b.block with
   | true=>rw[hk] at h; exact ⟨h,fun b' e=>by cases e; exact AA.kok hk⟩
   | false=>rw[hk] at h; cases h
theorem iG {a:Option Addr} {J J':Aa} {m:Option ρ} {r:ρ} (h:aQ a J J' m=some r):m=some r /\ ∀ b:Addr,a=some b->b.block<J.length/\J'[b.block]?=J[b.block]?:=by
 cases a with
 | none=>exact ⟨h,fun b e=>by cases e⟩
 | some b=>
   unfold aQ at h;simp only at h;cases hk:(Nat.blt b.block J.length && AA.k J J' b.block) with
   | true=>
     rw[hk] at h;rw[zn,Ac2] at hk;exact ⟨h,fun b' e=>by cases e; exact ⟨hk.1,AA.kok hk.2⟩⟩
   | false=>rw[hk] at h; cases h
def Kept (ts:List Nat) (E:Bc) (J J':Aa):Prop:=∀ t ∈ ts,(∃ a,E.getD t none=some (.pointer a) /\ ∀ b,a=some b->J'[b.block]?=J[b.block]?) \/
 ∃ a l c,E.getD t none=some (.slice a l c) /\ ∀ b:Addr,a=some b->b.block<J.length/\J'[b.block]?=J[b.block]?
theorem Of:∀ {ts:List Nat} {regs:Bc} {J J':Aa} {m:Option ρ} {r:ρ},RR ts regs J J' m=some r->m=some r/\Kept ts regs J J'
 | [],regs,J,J',m,r,h=>⟨h,fun t ht=>by cases ht⟩
 | t::ts,regs,J,J',m,r,h=>by
   simp only[RR] at h;split at h
   ·rename_i a ha;obtain ⟨h1,h2⟩:=iH h;obtain ⟨h3,h4⟩:=Of h1;refine ⟨h3,fun t' ht=>?_⟩;rcases yL.1 ht with rfl | ht
    ·exact .inl ⟨a,ha,h2⟩
    ·exact h4 t' ht
   ·rename_i a l c ha;obtain ⟨h1,h2⟩:=iG h;obtain ⟨h3,h4⟩:=Of h1;refine ⟨h3,fun t' ht=>?_⟩;rcases yL.1 ht with rfl | ht
    ·exact .inr ⟨a,l,c,ha,h2⟩
    ·exact h4 t' ht
   ·cases h
theorem Mx {S:FuncId->Bool} {call:Gc} (hcall:∀ f args J v J',S f=true->call f args J=some (v,J')->J <+: J') {qf:Nat->QF} {all:List Oper}:∀ (fuel:Nat) {ρ:Type} {known:List (Nat × Bool)} {ops:List (Nat × Oper)} {regs:Bc} {J:Aa} {K:Bc->Aa->Option ρ} {r:ρ},
  JR P call qf all fuel ρ known ops regs J K=some r->(∀ io ∈ ops,Wf P S io.2=true) -> ∃ regs' J',K regs' J'=some r/\J <+: J'
 | 0,ρ,known,ops,regs,J,K,r,h,ha=>by simp[JR] at h
 | fuel+1,ρ,known,ops,regs,J,K,r,h,ha=>by
   cases ops with
   | nil=>simp only[JR] at h; exact ⟨regs,J,h,Aao⟩
   | cons io rest=>
     have one:(Ii P call (qf io.1).1 io.2.op io.2.type (cf regs) J fun v J'=>RR (qf io.1).2 regs J J' (JR P call qf all fuel ρ known rest (Jz regs io.2.dst (some v)) J' K))=some r -> ∃ regs' J',K regs' J'=some r/\J <+: J':=by
      intro h;obtain ⟨v,J1_,h1,h2⟩:=pM hcall (ha io (by simp)) h;obtain ⟨regs',J',g1,g2⟩:=Mx hcall fuel (Of h1).1 (fun io' h'=>ha io' (by simp[h']));exact ⟨regs',J',g1,h2.trans g2⟩
     simp only[JR] at h;split at h
     ·exact one h
     ·rename_i j want hg;cases hk:known.contains (j,want) with
      | true=>
        rw[hk] at h;simp only[IT] at h;split at h
        ·rename_i b hr;cases hbw:(b == want) with
         | false=>rw[hbw] at h; cases h
         | true=>rw[hbw] at h; exact one h
        ·cases h
      | false=>
        rw[hk] at h;simp only[By] at h;split at h
        ·cases h
        ·rename_i body p after hsp;have hrest:=Qs hsp;simp only at hrest;split at h
         ·rename_i b hr;simp only[IS] at h;obtain ⟨⟨rb,J1_⟩,h1,h2⟩:=h;rw[qw] at h1;have fin:∀ (regs':Bc) (J':Aa),(((p.2.dst.bind fun d=>regs'.getD d none).bind DK).bind fun r=>some (r,J'))=some (rb,J1_)->J'=J1_:=by
           intro regs' J' hq;rw[IS] at hq;obtain ⟨x,hx,hxx⟩:=hq;cases hxx;rfl
          have hmem:∀ io' ∈ io::(body++[p]),Wf P S io'.2=true:=by
           intro io' h';apply ha;rw[hrest];simp at h' ⊢;rcases h' with h' | h' | h' <;> simp[h']
          have grp:J <+: J1_:=by
           cases hbw:(b == want) with
           | true=>
             rw[hbw] at h1;simp only[IT] at h1;obtain ⟨regs',J',g1,g2⟩:=Mx hcall fuel h1 hmem;rw[<- fin _ _ g1]; exact g2
           | false=>
             rw[hbw] at h1;simp only[By,IS] at h1;obtain ⟨regs2,hs,h1⟩:=h1;obtain ⟨regs',J',g1,g2⟩:=Mx hcall fuel h1 (fun io' h'=>hmem io' (by simp at h'; simp[h']));rw[<- fin _ _ g1]; exact g2
          obtain ⟨regs',J',g1,g2⟩:=Mx hcall fuel h2 (fun io' h'=>ha io' (by rw[hrest]; simp[h']));exact ⟨regs',J',g1,grp.trans g2⟩
         ·cases h
theorem bf {regs:Bc} {r:Bl} {x:Cc} {J:Aa}:∀ {os:List (Nat × Kd)} {acc:List Value->List Value},Zj regs os (fun vs=>some (x,acc vs,J))=some r->r.2.2=J
 | [],acc,h=>by simp only[Zj] at h; cases h; rfl
 | (t,k)::os,acc,h=>by
   simp only[Zj,IS] at h;obtain ⟨v,_,h⟩:=h;exact bf (acc:=fun vs=>acc (v::vs)) h
theorem Vf {exits:List (Cc × List (Nat × Kd))} {x:Cc} {regs:Bc} {J:Aa} {r:Bl} (h:pack exits x regs J=some r):r.2.2=J:=by
 unfold pack at h;simp only[IS] at h;obtain ⟨outs,_,h⟩:=h;exact bf (acc:=id) h
theorem ZF {x:Cc} {K:Cc->List (Nat × Kd)->Option ρ} {r:ρ}:∀ {es:List (Cc × List (Nat × Kd))},UB x K es=some r -> ∃ y outs,K y outs=some r
 | [],h=>by cases h
 | e::es,h=>by
   simp only[UB] at h;split at h
   ·exact ⟨_,_,h⟩
   ·exact ZF h
theorem oG {ks:List Kd}:∀ {l:List Value} {K:List Value->Option ρ} {r:ρ},bW ks l K=some r -> ∃ vs,K vs=some r:=by
 induction ks with
 | nil=>intro l K r h; exact ⟨_,h⟩
 | cons k ks ih=>
   intro l K r h;simp only[bW,IS] at h;obtain ⟨v,_,h⟩:=h;obtain ⟨vs,h⟩:=ih (Rm h);exact ⟨_,h⟩
theorem ZH {h:Hint} {c:Code} {regs:Bc} {r1:Bl} {K:Cc->Bc->Aa->Option ρ} {r:ρ} (hu:unpack h c regs r1 K=some r):∃ x regs2,K x regs2 r1.2.2=some r:=by
 unfold unpack at hu;obtain ⟨y,outs,hu⟩:=ZF hu;obtain ⟨vs,hu⟩:=oG hu;exact ⟨_,_,hu⟩
theorem Ze {B:Bc->Aa->(Cc->Bc->Aa->Option Bl)->Option Bl} {h:Hint} (hB:∀ regs J K r,B regs J K=some r -> ∃ x regs' J',K x regs' J'=some r/\J <+: J'):∀ (n:Nat) {regs:Bc} {J:Aa} {r:Bl},WQ B h n regs J=some r->J <+: r.2.2
 | 0,_,_,_,e=>by cases e
 | n+1,regs,J,r,e=>by
   simp only[WQ] at e;obtain ⟨x,regs',J',g1,g2⟩:=hB _ _ _ _ e;cases x with
   | normal=>exact g2.trans (Ze hB n g1)
   | exit i=>rw[Vf g1]; exact g2
   | ret=>rw[Vf g1]; exact g2
theorem mc {S:FuncId->Bool} {call:Gc} (hcall:∀ f args J v J',S f=true->call f args J=some (v,J')->J <+: J') {fid:FuncId} {H:Hints} {n:Nat}:∀ (c:Code) {ρ:Type} {regs:Bc} {J:Aa} {K:Cc->Bc->Aa->Option ρ} {r:ρ},
  NV P S c=true->exec P call fid H n c ρ regs J K=some r -> ∃ x regs' J',K x regs' J'=some r/\J <+: J':=by
 intro c
 induction c with
 | skip=>intro ρ regs J K r ha h; exact ⟨_,_,_,h,Aao⟩
 | exit i=>intro ρ regs J K r ha h; exact ⟨_,_,_,h,Aao⟩
 | ret=>intro ρ regs J K r ha h; exact ⟨_,_,_,h,Aao⟩
 | region id ops draw=>
   intro ρ regs J K r ha h;simp only[exec] at h;simp only[NV,Aay] at ha;cases hd:(draw && !Um P ops.toList (N7 P ops.toList draw)) with
   | true=>rw[hd] at h; cases h
   | false=>
     rw[hd] at h;simp only[By] at h;obtain ⟨regs',J',g1,g2⟩:=Mx hcall _ h (by
      intro io hio;simp only[zK] at hio;obtain ⟨x,hx,rfl⟩:=hio;exact ha _ (by
       have:=List.mem_zipIdx hx;obtain ⟨_,h2,h3⟩:=this;simp only at h3 ⊢;rw[h3]; exact yU _));exact ⟨_,_,_,g1,g2⟩
 | seq a b iha ihb=>
   intro ρ regs J K r ha h;simp only[exec] at h;simp only[NV,zn] at ha;obtain ⟨x,regs',J',g1,g2⟩:=iha ha.1 h;cases x with
   | normal=>
     obtain ⟨y,regs2,J2_,k1,k2⟩:=ihb ha.2 g1;exact ⟨y,regs2,J2_,k1,g2.trans k2⟩
   | exit i=>exact ⟨_,_,_,g1,g2⟩
   | ret=>exact ⟨_,_,_,g1,g2⟩
 | cond c a b iha ihb=>
   intro ρ regs J K r ha h;simp only[exec] at h;simp only[NV,zn] at ha;split at h
   ·rename_i bb hb;split at h
    ·cases bb with
     | true=>exact iha ha.1 h
     | false=>exact ihb ha.2 h
    ·simp only[IS] at h;obtain ⟨r1,h1,h2⟩:=h;have hp:J <+: r1.2.2:=by
      cases bb with
      | true=>
        obtain ⟨x,regs',J',g1,g2⟩:=iha ha.1 h1;rw[Vf g1]; exact g2
      | false=>
        obtain ⟨x,regs',J',g1,g2⟩:=ihb ha.2 h1;rw[Vf g1]; exact g2
     obtain ⟨x,regs2,k⟩:=ZH h2;exact ⟨x,regs2,_,k,hp⟩
   ·cases h
 | block id c ih=>
   intro ρ regs J K r ha h;simp only[exec] at h;simp only[NV] at ha;obtain ⟨x,regs',J',g1,g2⟩:=ih ha h;cases x with
   | normal=>exact ⟨_,_,_,g1,g2⟩
   | exit i=>
     simp only at g1;split at g1
     ·exact ⟨_,_,_,g1,g2⟩
     ·exact ⟨_,_,_,g1,g2⟩
   | ret=>exact ⟨_,_,_,g1,g2⟩
 | loop c ih=>
   intro ρ regs J K r ha h;simp only[exec] at h;simp only[NV] at ha;split at h
   ·cases h
   ·simp only[IS] at h;obtain ⟨r1,h1,h2⟩:=h;have hp:=Ze (fun regs J K r e=>ih ha e) n h1;obtain ⟨x,regs2,k⟩:=ZH h2;exact ⟨x,regs2,_,k,hp⟩
 | _=>intro ρ regs J K r ha h; simp[NV] at ha
def bO (X:Ext):Prop:=∀ f g,X f=some g -> ∀ args J v J',g args J=some (v,J')->J <+: J'
theorem jV {X:Ext} (hX:bO X) {H:FuncId->Hints}:∀ (d k:Nat) (f:FuncId) (args:List Value) (J:Aa) (v:Value) (J':Aa),jJ P d f=true->fn P X H k f args J=some (v,J')->J <+: J'
 | 0,_,_,_,_,_,_,h,_=>by cases h
 | d+1,0,_,_,_,_,_,_,h=>by cases h
 | d+1,k+1,f,args,J,v,J',ha,h=>by
   have ih:=jV hX (H:=H) d k;simp only[jJ] at ha;have hny:Nat.beq f YF=false:=by
    cases hb:Nat.beq f YF with
    | true=>rw[hb] at ha; cases ha
    | false=>rfl
   simp only[fn,hny,By] at h ha;split at h
   ·rename_i g hg;exact hX f g hg args J v J' h
   ·split at h
    ·cases h
    ·rename_i F hF;simp only[hF] at ha;split at h
     ·cases h
     ·rename_i c hb;rw[hb] at ha;simp only at ha;split at h
      ·cases h
      ·obtain ⟨x,regs',J1_,hK,hp⟩:=mc ih c ha h;have:J'=J1_:=by
        unfold fin at hK;split at hK
        ·cases hK
        ·simp only[IS] at hK;obtain ⟨vs,_,hK⟩:=hK;cases hK; rfl
       rw[this]; exact hp
end
section
variable {ρ:Type} {P:Program} [AA]
def rJ (P:Program) (Z:Mu) (J:Aa) (w:World) (v:Value) (J':Aa) (e:Ending) (w':World):Prop:=
 ∃ Z' v',e = .returned v'/\RV Z' v v'/\R P Z' J' w'/\Step Z J w Z' J' w'
def jI (P:Program) (args:List Value) (J:Aa) (v:Value) (J':Aa):Prop:=
 ∃ a vs,args = .pointer (some a)::vs /\ ∀ (Z:Mu) (w:World) (k:Ww) (cargs:Array Value),R P Z J w->GL Z J.length J'.length->Z a.block=some k->It Z vs cargs.toList ->
  ∃ fn tmps asg body,(Instr.yield k.b cargs).run P w = .ok (.round k.b fn tmps asg body) w /\ ∀ ro nn,RoundIn (FW ro) nn P k.b fn tmps asg body w (rJ P Z J w v J')
structure TP (P:Program) (call:Gc):Prop where
 fn:∀ f args J v J',f≠YF->call f args J=some (v,J')->J.length<=J'.length/\(dR P f=true->J <+: J')/\(∃ F,P.funcs[f]?=some F/\F.body.isSome=true/\(F.name == "runtime.NumGoroutine")=false) /\
  ∀ (Z:Mu) (w:World) (cargs:Array Value),R P Z J w->GL Z J.length J'.length->It Z args cargs.toList->Calls P f cargs w (rJ P Z J w v J')
 yld:∀ args J v J',call YF args J=some (v,J')->J.length<=J'.length/\jI P args J v J'
def kZ (P:Program) (o:Oper) (a:Act) (w:World) (Z:Mu) (J:Aa) (v:Value) (J':Aa):Prop:=
 ∀ (ro:Option Nat) (nn:Nat) (next:Act->World->Prop) (Q:Exit->Act->World->Prop),(∀ Z' v' w',RV Z' v v'->R P Z' J' w'->Step Z J w Z' J' w'->next (a.put o.dst v') w')->o.wpIn (FW ro) nn P a w next Q
theorem Oj {o:Oper} {a:Act} {w:World} {Z:Mu} {J J':Aa} {v:Value} (h:jE P Z J w v J' ((execOp a.eval o).run P w)):kZ P o a w Z J v J':=by
 intro ro nn next Q hn
 obtain ⟨Z',v',w',hres,h1,h2,h3⟩:=h;rcases hres with hres | ⟨hres,rfl⟩
 ·refine LX (N8 hres (by intro d hd; cases hd)) ?_;unfold Oper.wp;rw[hres,Ab8]; exact hn Z' v' w' h1 h2 h3
 ·refine LX (N8 hres (by intro d hd; cases hd)) ?_;unfold Oper.wp;rw[hres,Oper.upon_skip]; exact hn Z' undef w' h1 h2 h3
theorem cu {o:Oper} {a:Act} {w:World} {Z:Mu} {J:Aa} {v:Value} {e:Operand->Option Value} (h:Re P o e v) (hR:R P Z J w) (he:∀ x u,e x=some u->RV Z u (a.eval x)):kZ P o a w Z J v J:=by
 obtain ⟨v',h1,h2⟩:=h Z w a.eval he;exact Oj ⟨Z,v',w,.inl h1,h2,hR,Step.refl _ _ _⟩
theorem iT {o:Oper} {a:Act} {w:World} {Z:Mu} {J:Aa} {v:Value} {e:Operand->Option Value} (h:UI P o e J v) (hR:R P Z J w) (he:∀ x u,e x=some u->RV Z u (a.eval x)):kZ P o a w Z J v J:=by
 obtain ⟨v',h1,h2⟩:=h Z w a.eval hR he;exact Oj ⟨Z,v',w,.inl h1,h2,hR,Step.refl _ _ _⟩
theorem cI {J J':Aa} {m:Option ρ} {r:ρ} (h:G9 J J' m=some r):J <+: J'/\m=some r:=by
 unfold G9 at h;cases hq:AA.q J J' with
 | true=>rw[hq] at h; exact ⟨AA.ok hq,h⟩
 | false=>rw[hq] at h; cases h
theorem jk {t:TypeId} {nm:String} {f:FuncId} {w:World} {v:Value} (h:cn P t nm=some f):(method (P.types.size+Made.depth) t v nm).run P w = .ok (f,v) w:=by
 unfold cn at h;split at h
 ·cases h
 rename_i i hi;split at h
 ·cases h
 rename_i m hm;have hti:(typeInfo t).run P w = .ok i w:=by
  simp[typeInfo,hi,go_sem]
 have hd:P.types.size+Made.depth=(P.types.size+Made.depth-1)+1:=by
  have:0<Made.depth:=by decide
  omega
 rw[hd,method];split at h
 ·rename_i h1 h2 h3;cases h;simp only[za,hti,y9,hm,zf,h1,follow,h2,receiverAt,yx h3,Place.get]
 ·rename_i h1 h2 h3;cases h;simp only[za,hti,y9,hm,zf,h1,follow,h2,receiverAt,yx h3,Place.get]
 ·cases h
theorem pN {call:Gc} (hcall:TP P call) {c:Call} {fo:Operand} {q:Bool} {ty:TypeId} {e:Operand->Option Value} {J:Aa} {K:Value->Aa->Option ρ} {r:ρ} {o:Oper} (ho:o.op = .call c) (hc:c.callee = .value fo)
  (h:Ii P call q (.call c) ty e J K=some r):∃ v J',K v J'=some r/\J.length<=J'.length/\(q=true->J <+: J') /\
   ∀ (a:Act) (Z:Mu) (w:World),R P Z J w->GL Z J.length J'.length->(∀ x u,e x=some u->RV Z u (a.eval x))->kZ P o a w Z J v J':=by
 simp only[Ii,hc,IS] at h;obtain ⟨fv,hfv,h⟩:=h;obtain ⟨vs,h1,hvs⟩:=Lq h;clear h;simp only[IS] at h1;obtain ⟨⟨v,J'⟩,hcl,h1⟩:=h1;have hK:K v J'=some r/\(q=true->jP P fv=false->J <+: J'):=by
  cases hb:(q && !jP P fv) with
  | true=>
    rw[hb] at h1;simp only[Mt,IT] at h1;obtain ⟨h2,h3⟩:=cI h1;exact ⟨PH h3,fun _ _=>h2⟩
  | false=>
    rw[hb] at h1;simp only[Mt,By] at h1;refine ⟨PH h1,fun hq hv=>?_⟩;rw[hq,hv] at hb; cases hb
 unfold Lc at hcl;split at hcl;rotate_left
 ·rename_i l first cap
  obtain ⟨hlen,a0,us,hau,hy⟩:=hcall.yld _ _ _ _ hcl;cases hau;refine ⟨v,J',hK.1,hlen,fun hq=>hK.2 hq rfl,fun a Z w hR hfr he=>?_⟩;intro ro nn next Q hn
  have hrf:=he fo _ hfv;generalize hafo:a.eval fo=af at hrf;cases hrf with
  | @func _ _ first' _ cap' hny h1' h2'=>exact absurd rfl (hny _)
  | @yield _ k hh=>
    obtain ⟨fn,tmps,asg,body,hyr,hround⟩:=hy Z w k (c.args.map a.eval) hR hfr hh (by simpa using hvs Z a.eval he);have hrun:(execOp a.eval o).run P w = .ok (.round k.b fn tmps asg body) w:=by
     have hex:execOp a.eval o=(do let d <- resolve a.eval c o.type; invoke d.target d.args:Sem Next):=by
      unfold execOp; rw[ho]
     rw[hex];simp only[resolve,hc,hafo,Deferred.ofValue,pure_bind,invoke,Array.empty_append];exact hyr
    refine ⟨fun _ _=>trivial, ?_⟩;rw[show (FW ro).round=ro from rfl,Oper.semAt_eq ro a.eval o (N8 hrun (by intro d hd; cases hd)),hrun,Oper.uponIn_round];refine ⟨fun hh=>(by cases hh),(hround ro _).mono ?_⟩;rintro e' w' ⟨Z',v',rfl,g1,g2,g3⟩;exact hn Z' v' w' g1 g2 g3
 ·rename_i nm first cap
  split at hcl;rotate_left
  ·cases hcl
  rename_i t rv rest hl;simp only[IS] at hcl;obtain ⟨f,hm,hcl⟩:=hcl;obtain ⟨hny,hcl⟩:=cq hcl;obtain ⟨hlen,hcalm,⟨F,hF,hbody,hname⟩,hcalls⟩:=hcall.fn _ _ _ _ _ hny hcl;refine ⟨v,J',hK.1,hlen,fun hq=>hK.2 hq rfl,fun a Z w hR hfr he=>?_⟩;intro ro nn next Q hn
  have hrf:=he fo _ hfv;generalize hafo:a.eval fo=af at hrf;cases hrf with
  | @func _ _ first' _ cap' _ h1' h2'=>
    have hargs:=h1'.append (hvs Z a.eval he);rw[hl] at hargs;generalize hll:first'.toList++c.args.toList.map a.eval=ll at hargs
    cases hargs with
    | cons hrv hrest=>
    cases hrv with
    | iface hrv=>
    rename_i rest' rv';have harr:first'++c.args.map a.eval=(Value.iface t rv'::rest').toArray:=by
     apply Aci.1; simpa using hll
    have hc':=hcalls Z w (#[rv']++rest'.toArray) hR hfr (by simpa using It.cons hrv hrest);have hmeth:=jk (w:=w) (v:=rv') hm;have hrun:(execOp a.eval o).run P w = .ok (.enter f (#[rv']++rest'.toArray)) w:=by
     have hex:execOp a.eval o=(do let d <- resolve a.eval c o.type; invoke d.target d.args:Sem Next):=by
      unfold execOp; rw[ho]
     rw[hex];have hb:F.body.isNone=false:=by cases hq:F.body <;> simp_all
     have hmeth':(method (P.types.size+Made.depth) t rv' nm).run P w = .ok (f,rv') w:=hmeth;have hx:((Value.iface t rv'::rest').toArray.extract 1 (Value.iface t rv'::rest').toArray.size)=rest'.toArray:=by simp
     simp only[resolve,hc,hafo,Deferred.ofValue,pure_bind,invoke,harr,Ach,yy,callMethod,hx,callFunc,za,run_program,y9,hmeth',hF,hname,hb,y8,yq,zf]
    refine LX (N8 hrun (by intro d hd; cases hd)) ?_;unfold Oper.wp;rw[hrun,Oper.upon_enter];refine hc'.mono ?_;rintro e' w' ⟨Z',v',rfl,g1,g2,g3⟩;exact hn Z' v' w' g1 g2 g3
 ·cases hcl
 rename_i f first cap
 obtain ⟨hny,hcl⟩:=cq hcl;obtain ⟨hlen,hcalm,⟨F,hF,hbody,hname⟩,hcalls⟩:=hcall.fn _ _ _ _ _ hny hcl;refine ⟨v,J',hK.1,hlen,(fun hq=>by
  cases hcv:dR P f with
  | true=>exact hcalm hcv
  | false=>exact hK.2 hq hcv),fun a Z w hR hfr he=>?_⟩;intro ro nn next Q hn
 have hrf:=he fo _ hfv;generalize hafo:a.eval fo=af at hrf;cases hrf with
 | @func _ _ first' _ cap' _ h1' h2'=>
   have hargs:=(h1'.append (hvs Z a.eval he)).append h2';have hc':=hcalls Z w (first'++(c.args.map a.eval)++cap') hR hfr (by simpa using hargs);have hrun:(execOp a.eval o).run P w = .ok (.enter f (first'++(c.args.map a.eval)++cap')) w:=by
    have hex:execOp a.eval o=(do let d <- resolve a.eval c o.type; invoke d.target d.args:Sem Next):=by
     unfold execOp; rw[ho]
    rw[hex];have hb:F.body.isNone=false:=by cases hq:F.body <;> simp_all
    simp only[resolve,hc,hafo,Deferred.ofValue,pure_bind,invoke,callFunc,za,run_program,y9,hF,hname,hb,y8,yq,zf]
   refine LX (N8 hrun (by intro d hd; cases hd)) ?_;unfold Oper.wp;rw[hrun,Oper.upon_enter];refine hc'.mono ?_;rintro e' w' ⟨Z',v',rfl,g1,g2,g3⟩;exact hn Z' v' w' g1 g2 g3
structure Ov (P:Program) (o:Oper) (e:Operand->Option Value) (J:Aa) (v:Value) (J':Aa):Prop where
 load:∀ T x,o.op = .load T x -> ∃ a,e x=some (.pointer (some a)) /\ ∀ J2_:Aa,J2_[a.block]?=J[a.block]?->UI P o e J2_ v
 fa:∀ T x f,o.op = .fieldAddr T x f -> ∃ a a',e x=some (.pointer (some a))/\v = .pointer (some a')/\a'.block=a.block
 st:∀ T x y,o.op = .store T x y -> ∃ a,e x=some (.pointer (some a)) /\ ∀ b,b≠a.block->J'[b]?=J[b]?
 al:∀ T,o.op = .alloc T -> ∃ a,v = .pointer (some a)/\a.block=J.length
 mv:∀ x,o.op = .move x\/o.op = .nilCheck x->e x=some v
 sl:∀ T x lo hi mx,o.op = .slice T x lo hi mx -> ∃ a l c,e x=some (.slice a l c) /\ ∀ J2_:Aa,(∀ b:Addr,a=some b->J2_[b.block]?=J[b.block]?)->UI P o e J2_ v
theorem WT {o:Oper} {e:Operand->Option Value} {J J':Aa} {v:Value} (h1:∀ T x,o.op ≠ .load T x) (h2:∀ T x f,o.op ≠ .fieldAddr T x f) (h3:∀ T x y,o.op ≠ .store T x y) (h4:∀ T,o.op ≠ .alloc T) (h5:∀ x,¬ (o.op = .move x\/o.op = .nilCheck x)) (h6:∀ T x lo hi mx,o.op ≠ .slice T x lo hi mx):Ov P o e J v J':=
 ⟨fun T x h=>absurd h (h1 T x),fun T x f h=>absurd h (h2 T x f),fun T x y h=>absurd h (h3 T x y),fun T h=>absurd h (h4 T),fun x h=>absurd h (h5 x),fun T x lo hi mx h=>absurd h (h6 T x lo hi mx)⟩
theorem sC {o:Oper} {call:Gc} {q:Bool} {e:Operand->Option Value} {J:Aa} {K:Value->Aa->Option ρ} {r:ρ} (hc:F6 P o = .al) (hnc:∀ c,o.op ≠ .call c)
  (h:Ii P call q o.op o.type e J K=some r):∃ v x,K v (J++[x])=some r/\tK P o e J v (J++[x]) /\ ∀ T,o.op = .alloc T -> ∃ a,v = .pointer (some a)/\a.block=J.length:=by
 by_cases ha:∃ T,o.op = .alloc T
 ·obtain ⟨T,ho⟩:=ha;have h0:=h;rw[ho] at h0;simp only[Ii,IS] at h0;obtain ⟨z,hz,h0⟩:=h0;split at h0;rotate_left
  ·cases h0
  rename_i hz1;have e2:Ii P call q o.op o.type e J (fun v s=>some (v,s))=some (.pointer (some ⟨J.length,0,none⟩),J++[.cells z.cells.toList T true]):=by
   rw[ho]; simp only[Ii,hz,AI,hz1,ye]
  obtain ⟨v2,x2,g1,g2⟩:=iU hc hnc e2;simp only[zQ,Prod.mk.injEq] at g1;obtain ⟨g4,g3⟩:=g1;subst g4;refine ⟨_,x2, ?_,g2,fun T' _=>⟨_,rfl,rfl⟩⟩;rw[g3]; exact h0
 ·obtain ⟨v,x,h1,h2⟩:=iU hc hnc h;exact ⟨v,x,h1,h2,fun T h=>absurd ⟨T,h⟩ ha⟩
theorem XD {k:Kd} {J:Aa} {b o:Nat} (K:Value->Option ρ):qZ k J b o K=(qZ k J b o some).bind K:=by
 cases k <;> simp[qZ,Acb]
theorem UZ {J:Aa} {b:Nat}:∀ (ks:List Kd) (o:Nat) {ρ:Type} (K:List Value->Option ρ),Za ks J b o K=(Za ks J b o some).bind K
 | [],o,ρ,K=>rfl
 | k::ks,o,ρ,K=>by
   simp only[Za];rw[XD,XD (K:=fun v=>Za ks J b (o+1) fun vs=>some (v::vs)),Acb];congr 1; funext v;rw[UZ ks (o+1) (fun vs=>K (v::vs)),UZ ks (o+1) (fun vs=>some (v::vs)),Acb];congr 1
theorem u7 {J J2_:Aa} {b o:Nat} (h:J2_[b]?=J[b]?):D5 J2_ b o=D5 J b o:=by unfold D5; rw[h]
theorem pB {J J2_:Aa} {k:Kd} {b o:Nat} (h:J2_[b]?=J[b]?) (K:Value->Option ρ):qZ k J2_ b o K=qZ k J b o K:=by
 cases k <;> simp only[qZ,Ak,Tq,pC,BR,AR,sx,u7 h]
theorem kj {J J2_:Aa} {b:Nat} (h:J2_[b]?=J[b]?):∀ (ks:List Kd) (o:Nat) (K:List Value->Option ρ),Za ks J2_ b o K=Za ks J b o K
 | [],o,K=>rfl
 | k::ks,o,K=>by
   simp only[Za];rw[pB h];congr 1; funext v;exact kj h ks (o+1) _
theorem ZX {T:TypeId} {x:Operand} {call:Gc} {q:Bool} {ty:TypeId} {e:Operand->Option Value} {J:Aa} {K:Value->Aa->Option ρ} {r:ρ} {o:Oper} (ho:o.op = .load T x)
  (h:Ii P call q (.load T x) ty e J K=some r):∃ v,K v J=some r/\UI P o e J v/\Ov P o e J v J:=by
 simp only[Ii,IS] at h;obtain ⟨p,hp,h⟩:=h;split at h;rotate_left
 ·cases h
 rename_i a0;obtain ⟨a,ha0,h2⟩:=IS.1 h;clear h;subst ha0;have h:=h2;clear h2;have main:∃ v,K v J=some r /\ ∀ J2_:Aa,J2_[a.block]?=J[a.block]?->Ii P call q (.load T x) ty e J2_ (fun v _=>some v)=some v:=by
  cases hb:JQ P T with
  | true=>
    rw[hb,IT] at h;split at h;rotate_left
    ·cases h
    rename_i hsz;rw[UZ] at h;obtain ⟨vs,h1,h2⟩:=IS.1 h;refine ⟨_,h2,fun J2_ hq=>?_⟩;simp only[Ii,hp,AI,hb,IT];rw[yk hsz,UZ,kj hq,h1]; rfl
  | false=>
    rw[hb,By] at h;obtain ⟨d,hd,h⟩:=IS.1 h;rw[XD] at h;obtain ⟨v,h1,h2⟩:=IS.1 h;refine ⟨v,h2,fun J2_ hq=>?_⟩;simp only[Ii,hp,AI,hb,By,hd];rw[XD,pB hq,h1]; rfl
 obtain ⟨v,hK,hat⟩:=main;have at2:∀ J2_:Aa,J2_[a.block]?=J[a.block]?->UI P o e J2_ v:=fun J2_ hq=>by
  obtain ⟨v2,h1,h2⟩:=fF ho (hat J2_ hq);cases h1;exact h2
 refine ⟨v,hK,at2 J rfl,⟨fun T' x' h'=>?_,fun T' x' f' h'=>by (rw[ho] at h'; cases h'),fun T' x' f' h'=>by (rw[ho] at h'; cases h'),fun T' h'=>by (rw[ho] at h'; cases h'),fun x' h'=>by (rcases h' with h' | h' <;> (rw[ho] at h'; cases h')),fun T' x' l1 l2 l3 h'=>by (rw[ho] at h'; cases h')⟩⟩;rw[ho] at h';cases h';exact ⟨a,hp,at2⟩
theorem fE {T:TypeId} {x:Operand} {fl:Nat} {call:Gc} {q:Bool} {e:Operand->Option Value} {J:Aa} {K:Value->Aa->Option ρ} {r:ρ} {o:Oper} (ho:o.op = .fieldAddr T x fl)
  (h:Ii P call q o.op o.type e J K=some r):∃ v,K v J=some r/\Re P o e v/\Ov P o e J v J:=by
 have h0:=h;rw[ho] at h;simp only[Ii,IS] at h;obtain ⟨ot,hot,p,hp,h⟩:=h;split at h;rotate_left
 ·cases h
 obtain ⟨a,ha0,h1⟩:=IS.1 h;clear h;subst ha0;obtain ⟨s,hs,h2⟩:=IS.1 h1;clear h1;split at h2
 ·cases h2
 rename_i hs0;have e2:Ii P call q o.op o.type e J (fun v _=>some v)=some (.pointer (some ⟨a.block,a.off+ot.1,none⟩)):=by
  rw[ho];simp only[Ii,hot,hp,hs,AI,hs0,yq]
 obtain ⟨v2,g1,g2⟩:=Po (by unfold F6; rw[ho]) e2;cases g1;refine ⟨_,h2,g2,⟨fun T' x' h'=>(by rw[ho] at h'; cases h'),fun T' x' f' h'=>?_,fun T' x' f' h'=>by (rw[ho] at h'; cases h'),fun T' h'=>by (rw[ho] at h'; cases h'),fun x' h'=>by (rcases h' with h' | h' <;> (rw[ho] at h'; cases h')),fun T' x' l1 l2 l3 h'=>by (rw[ho] at h'; cases h')⟩⟩;rw[ho] at h';cases h';exact ⟨a,_,hp,rfl,rfl⟩
theorem lY {J J2_:Aa} {b:Nat} (h:J2_[b]?=J[b]?):elemAt J2_ b=elemAt J b:=by unfold elemAt; rw[h]
theorem nB {E:TypeId} {s:Nat} {v:Bp} {lo hi mx:Option Value} {J J2_:Aa} (h:∀ b:Addr,v.1=some b->J2_[b.block]?=J[b.block]?):F8 E s v lo hi mx J2_=F8 E s v lo hi mx J:=by
 obtain ⟨a,l,c⟩:=v;cases a with
 | none=>rfl
 | some b=>simp only[F8,AI,lY (h b rfl)]
theorem cd {e:Operand->Option Value} {x:Option Operand} {α:Type} {K:Option Value->Option α} {r:α} (h:nQ e x K=some r):∃ y,K y=some r /\ ∀ {β:Type} (K':Option Value->Option β),nQ e x K'=K' y:=by
 cases x with
 | none=>exact ⟨none,h,fun K'=>rfl⟩
 | some x=>
   simp only[nQ] at h;obtain ⟨v,hv,h⟩:=IS.1 h;exact ⟨some v,h,fun K'=>by simp only[nQ,hv,AI]⟩
theorem fH {T:TypeId} {x:Operand} {lo hi mx:Option Operand} {call:Gc} {q:Bool} {e:Operand->Option Value} {J:Aa} {K:Value->Aa->Option ρ} {r:ρ} {o:Oper} (ho:o.op = .slice T x lo hi mx)
  (h:Ii P call q o.op o.type e J K=some r):∃ v,K v J=some r/\UI P o e J v/\Ov P o e J v J:=by
 rw[ho] at h;simp only[Ii] at h;obtain ⟨E,hE,h⟩:=IS.1 h;obtain ⟨s,hs,h⟩:=IS.1 h;obtain ⟨p,hp,h⟩:=IS.1 h;obtain ⟨lo',ha,q1⟩:=cd h;clear h;obtain ⟨hi',hb,q2⟩:=cd ha;clear ha;obtain ⟨mx',h,q3⟩:=cd hb;clear hb;split at h;rotate_left
 ·cases h
 rename_i a len cap;obtain ⟨rr,hr,h⟩:=IS.1 h;have hcl:F6 P o = .ld:=by unfold F6; rw[ho]
 have at2:∀ J2_:Aa,(∀ b:Addr,a=some b->J2_[b.block]?=J[b.block]?)->UI P o e J2_ (.slice rr.1 rr.2.1 rr.2.2):=fun J2_ hq=>by
  have e2:Ii P call q o.op o.type e J2_ (fun v _=>some v)=some (.slice rr.1 rr.2.1 rr.2.2):=by
   rw[ho];simp only[Ii,hE,hs,hp,AI,q1,q2,q3];rw[nB (J:=J) hq,hr]; rfl
  obtain ⟨v2,h1,h2⟩:=cw hcl e2;cases h1;exact h2
 refine ⟨_,h,at2 J (fun _ _=>rfl),⟨fun T' x' h'=>by (rw[ho] at h'; cases h'),fun T' x' f' h'=>by (rw[ho] at h'; cases h'),fun T' x' f' h'=>by (rw[ho] at h'; cases h'),fun T' h'=>by (rw[ho] at h'; cases h'),fun x' h'=>by (rcases h' with h' | h' <;> (rw[ho] at h'; cases h')),fun T' x' l1 l2 l3 h'=>?_⟩⟩;rw[ho] at h';cases h';exact ⟨a,len,cap,hp,at2⟩
theorem sA {v:Value} {K:Value->Option ρ} {r:ρ} (h:iP v K=some r):K v=some r /\ ∀ K':Value->Option Value,iP v K'=K' v:=by
 unfold iP at h;split at h
 ·obtain ⟨a,rfl,h1⟩:=IS.1 h;exact ⟨h1,fun K'=>rfl⟩
 ·exact ⟨h,fun K'=>rfl⟩
 ·exact ⟨h,fun K'=>rfl⟩
 ·cases h
theorem fG {x:Operand} {call:Gc} {q:Bool} {e:Operand->Option Value} {J:Aa} {K:Value->Aa->Option ρ} {r:ρ} {o:Oper} (ho:o.op = .move x\/o.op = .nilCheck x)
  (h:Ii P call q o.op o.type e J K=some r):∃ v,K v J=some r/\Re P o e v/\Ov P o e J v J:=by
 rcases ho with ho | ho
 ·rw[ho] at h;simp only[Ii] at h;obtain ⟨v,hv,hK⟩:=IS.1 h;have e2:Ii P call q o.op o.type e J (fun v _=>some v)=some v:=by
   rw[ho];simp only[Ii,hv,AI]
  obtain ⟨v2,g1,g2⟩:=Po (by unfold F6; rw[ho]) e2;cases g1;exact ⟨v,hK,g2,⟨fun T' x' h'=>(by rw[ho] at h'; cases h'),fun T' x' f' h'=>(by rw[ho] at h'; cases h'),fun T' x' f' h'=>(by rw[ho] at h'; cases h'),fun T' h'=>(by rw[ho] at h'; cases h'),fun x' h'=>(by
   rcases h' with h' | h'
   ·rw[ho] at h'; cases h'; exact hv
   ·rw[ho] at h'; cases h'),fun T' x' l1 l2 l3 h'=>by (rw[ho] at h'; cases h')⟩⟩
 ·rw[ho] at h;simp only[Ii] at h;obtain ⟨v,hv,hN⟩:=IS.1 h;obtain ⟨hK,hn⟩:=sA hN;have e2:Ii P call q o.op o.type e J (fun v _=>some v)=some v:=by
   rw[ho];simp only[Ii,hv,AI];exact hn _
  obtain ⟨v2,g1,g2⟩:=Po (by unfold F6; rw[ho]) e2;cases g1;exact ⟨v,hK,g2,⟨fun T' x' h'=>(by rw[ho] at h'; cases h'),fun T' x' f' h'=>(by rw[ho] at h'; cases h'),fun T' x' f' h'=>(by rw[ho] at h'; cases h'),fun T' h'=>(by rw[ho] at h'; cases h'),fun x' h'=>(by
   rcases h' with h' | h'
   ·rw[ho] at h'; cases h'
   ·rw[ho] at h'; cases h'; exact hv),fun T' x' l1 l2 l3 h'=>by (rw[ho] at h'; cases h')⟩⟩
theorem vM {call:Gc} (hcall:TP P call) {o:Oper} {q:Bool} {e:Operand->Option Value} {J:Aa} {K:Value->Aa->Option ρ} {r:ρ} (h:Ii P call q o.op o.type e J K=some r):
  ∃ v J',K v J'=some r/\J.length<=J'.length /\
   (∀ (a:Act) (Z:Mu) (w:World),R P Z J w->GL Z J.length J'.length->(∀ x u,e x=some u->RV Z u (a.eval x))->kZ P o a w Z J v J') /\
   (F6 P o = .pure->J'=J/\Re P o e v)/\(F6 P o = .ld->J'=J)/\(F6 P o = .al->(∀ c,o.op ≠ .call c)\/q=true->J <+: J')/\(isApp o=true->q=true->J <+: J')/\Ov P o e J v J':=by
 have hna:∀ {x:vh},F6 P o=x->x ≠ .lo->isApp o=true->False:=by
  intro x hx hne ha;unfold isApp at ha;split at ha
  ·rename_i c ho;split at ha
   ·rename_i hcal;simp only[F6,ho,hcal,ZO] at hx;exact hne hx.symm
   ·cases ha
  ·cases ha
 have nomore:∀ {c:vh},F6 P o=c->c ≠ .ld->c ≠ .pure -> ∀ {J J':Aa} {v:Value},(∀ T x y,o.op = .store T x y -> ∃ a,e x=some (.pointer (some a)) /\ ∀ b,b≠a.block->J'[b]?=J[b]?)->(∀ T,o.op = .alloc T -> ∃ a,v = .pointer (some a)/\a.block=J.length)->Ov P o e J v J':=by
  intro c hc h1 h2 J J' v h3 h4;refine ⟨fun T x ho=>?_,fun T x f ho=>?_,h3,h4,fun x ho=>?_,fun T x lo hi mx ho=>?_⟩
  ·unfold F6 at hc; rw[ho] at hc; exact absurd hc.symm h1
  ·unfold F6 at hc; rw[ho] at hc; exact absurd hc.symm h2
  ·rcases ho with ho | ho <;> (unfold F6 at hc; rw[ho] at hc; exact absurd hc.symm h2)
  ·unfold F6 at hc; rw[ho] at hc; exact absurd hc.symm h1
 cases hc:F6 P o with
 | pure=>
   have main:∃ v,K v J=some r/\Re P o e v/\Ov P o e J v J:=by
    by_cases hfa:∃ T x f,o.op = .fieldAddr T x f
    ·obtain ⟨T,x,f,ho⟩:=hfa;exact fE ho h
    ·by_cases hmv:∃ x,o.op = .move x\/o.op = .nilCheck x
     ·obtain ⟨x,ho⟩:=hmv;exact fG ho h
     obtain ⟨v,h1,h2⟩:=Po hc h;exact ⟨v,h1,h2,WT (fun T x ho=>by unfold F6 at hc; rw[ho] at hc; cases hc) (fun T x f ho=>hfa ⟨T,x,f,ho⟩) (fun T x y ho=>by unfold F6 at hc; rw[ho] at hc; cases hc) (fun T ho=>by unfold F6 at hc; rw[ho] at hc; cases hc) (fun x ho=>hmv ⟨x,ho⟩) (fun T x lo hi mx ho=>by unfold F6 at hc; rw[ho] at hc; cases hc)⟩
   obtain ⟨v,h1,h2,h3⟩:=main;exact ⟨v,J,h1,yj _,fun a Z w hR hfr he=>cu h2 hR he,fun _=>⟨rfl,h2⟩,(fun h=>by (cases h)),(fun h=>by (cases h)),fun h=>(hna hc (by decide) h).elim,h3⟩
 | ld=>
   have main:∃ v,K v J=some r/\UI P o e J v/\Ov P o e J v J:=by
    by_cases hl:∃ T x,o.op = .load T x
    ·obtain ⟨T,x,ho⟩:=hl;rw[ho] at h;exact ZX ho h
    ·by_cases hs:∃ T x lo hi mx,o.op = .slice T x lo hi mx
     ·obtain ⟨T,x,lo,hi,mx,ho⟩:=hs;exact fH ho h
     obtain ⟨v,h1,h2⟩:=cw hc h;exact ⟨v,h1,h2,WT (fun T x ho=>hl ⟨T,x,ho⟩) (fun T x f ho=>by unfold F6 at hc; rw[ho] at hc; cases hc) (fun T x y ho=>by unfold F6 at hc; rw[ho] at hc; cases hc) (fun T ho=>by unfold F6 at hc; rw[ho] at hc; cases hc) (fun x ho=>by rcases ho with ho | ho <;> (unfold F6 at hc; rw[ho] at hc; cases hc)) (fun T x lo hi mx ho=>hs ⟨T,x,lo,hi,mx,ho⟩)⟩
   obtain ⟨v,h1,h2,h3⟩:=main;exact ⟨v,J,h1,yj _,fun a Z w hR hfr he=>iT h2 hR he,(fun h=>by (cases h)),fun _=>rfl,(fun h=>by (cases h)),fun h=>(hna hc (by decide) h).elim,h3⟩
 | al=>
   have hc0:=hc;by_cases hnc:∀ c,o.op ≠ .call c
   ·obtain ⟨v,x,h1,h2,h3⟩:=sC hc hnc h;exact ⟨v,J++[x],h1,by simp,fun a Z w hR hfr he=>Oj (h2 Z w a.eval hR hfr he),fun h=>by (cases h),fun h=>by (cases h),fun _ _=>⟨[x],rfl⟩,fun h=>(hna hc (by decide) h).elim,nomore hc (by decide) (by decide) (fun T x y ho=>by unfold F6 at hc; rw[ho] at hc; cases hc) h3⟩
   ·have:∃ c,o.op = .call c:=by
     apply zk;intro hq;exact hnc fun c hc=>hq ⟨c,hc⟩
    obtain ⟨c,ho⟩:=this;cases hcal:c.callee with
    | builtin b=>
      simp only[F6,ho,hcal] at hc;cases b <;> cases hm:RQ P c.argTypes.toList <;> simp[hm,ZO] at hc
    | invoke r m=>rw[ho] at h; simp only[Ii,hcal] at h; cases h
    | value fo=>
      rw[ho] at h;obtain ⟨v,J',h1,h2,h3,h4⟩:=pN hcall ho hcal h;refine ⟨v,J',h1,h2,h4,fun h=>by (cases h),fun h=>by (cases h),fun _ hq=>?_,fun h=>(hna hc0 (by decide) h).elim,nomore hc0 (by decide) (by decide) (fun T x y h'=>by (rw[ho] at h'; cases h')) (fun T h'=>by (rw[ho] at h'; cases h'))⟩;rcases hq with hq | hq
      ·exact absurd ho (hq c)
      ·exact h3 hq
 | lo=>
   have main:∃ v J',K v J'=some r/\J.length<=J'.length/\kX P o e J v J'/\(isApp o=true->q=true->J <+: J')/\(∀ T x y,o.op = .store T x y -> ∃ a,e x=some (.pointer (some a)) /\ ∀ b,b≠a.block->J'[b]?=J[b]?):=by
    have nap:∀ {x:Op},o.op=x->(∀ c,x ≠ .call c)->isApp o=true->False:=by
     intro x hx hc ha;unfold isApp at ha;split at ha
     ·rename_i c ho;exact hc c (hx.symm.trans ho)
     ·cases ha
    cases ho:o.op
    case store=>
     rw[ho] at h;obtain ⟨v,J',a1,a2,a3,a4⟩:=mQ ho h;exact ⟨v,J',a1,a2,a3,fun ha=>(nap ho (by intro c hc; cases hc) ha).elim,fun T x y h'=>by cases h'; exact a4⟩
    case mapUpdate=>
     rw[ho] at h;obtain ⟨v,J',a1,a2,a3⟩:=ZY ho h;exact ⟨v,J',a1,a2,a3,fun ha=>(nap ho (by intro c hc; cases hc) ha).elim,fun T x y h'=>by cases h'⟩
    case call c=>
     rw[ho] at h;simp only[F6,ho] at hc;split at hc
     ·rename_i b hb;by_cases hba:b = .append
      ·subst hba;obtain ⟨v,J',a1,a2,a3,a4⟩:=iV ho hb h;exact ⟨v,J',a1,a2,a3,fun _=>a4,fun T x y h'=>by cases h'⟩
      ·obtain ⟨v,J',a1,a2,a3⟩:=Zi ho hb hba hc h;exact ⟨v,J',a1,a2,a3,fun ha=>absurd (ug ho hb ha) hba,fun T x y h'=>by cases h'⟩
     ·cases hc
    all_goals (simp[F6,ho] at hc)
   obtain ⟨v,J',h1,h2,h3,h4,h5⟩:=main;exact ⟨v,J',h1,h2,fun a Z w hR hfr he=>Oj (h3 Z w a.eval hR hfr he),fun h=>by (cases h),fun h=>by (cases h),fun h=>by (cases h),h4,nomore hc (by decide) (by decide) h5 (fun T ho=>by unfold F6 at hc; rw[ho] at hc; cases hc)⟩
end
section
variable {ρ:Type} {P:Program} [AA]
def JO (E regs:Bc):Prop:=∀ (t:Nat) (v:Value),regs.getD t none=some v->E.getD t none=some v
theorem JO.refl (E:Bc):JO E E:=fun _ _ h=>h
theorem JO.trans {a b c:Bc} (h:JO a b) (g:JO b c):JO a c:=fun t v e=>h t v (g t v e)
theorem IL (regs:Bc) (d t:Nat) (v:Option Value):(regs.set d v).getD t none=if d=t/\d<regs.length then v else regs.getD t none:=by
 simp only[yd,z8];by_cases h:d=t
 ·subst h;by_cases h2:d<regs.length
  ·simp[h2]
  ·simp[h2]
 ·simp[h]
theorem JO.put {E regs:Bc} (h:JO E regs) (hl:regs.length=E.length) (d:Option Nat) (v:Option Value):JO (Jz E d v) (Jz regs d v):=by
 cases d with
 | none=>exact h
 | some d=>
   intro t u;simp only[Jz,IL];by_cases hc:d=t/\d<regs.length
   ·rw[yk hc,yk (by rw[<- hl]; exact hc)]; exact id
   ·rw[ym hc,ym (by rw[<- hl]; exact hc)]; exact h t u
theorem Ep (regs:Bc) (d:Option Nat) (v:Option Value):(Jz regs d v).length=regs.length:=by
 cases d <;> simp[Jz]
theorem oY {E regs:Bc} (h:JO E regs) {x:Operand} {u:Value} (hx:cf regs x=some u):cf E x=some u:=by
 cases x with
 | tmp t=>exact h t u hx
 | const v=>exact hx
 | global g=>exact hx
 | func f=>exact hx
theorem U0 {all:List Oper} {E regs:Bc} (h:JO E regs) {j:Nat} {u:Value} (hx:MP all regs j=some u):MP all E j=some u:=by
 unfold MP at hx ⊢;split at hx
 ·exact h _ u hx
 ·cases hx
theorem Pe {e e':Operand->Option Value}:∀ {xs:List Operand} {K:List Value->Option ρ},(∀ x ∈ xs,e x=e' x)->qY e xs K=qY e' xs K
 | [],K,_=>rfl
 | x::xs,K,h=>by
   simp only[qY];rw[h x (by simp)];congr 1; funext v;exact Pe fun y hy=>h y (by simp[hy])
theorem VY {e e':Operand->Option Value}:∀ {xs:List (Nat × Operand)} {K:List (Nat × Value)->Option ρ},(∀ p ∈ xs,e p.2=e' p.2)->tt e xs K=tt e' xs K
 | [],K,_=>rfl
 | (i,x)::xs,K,h=>by
   simp only[tt];rw[h (i,x) (by simp)];congr 1; funext v;exact VY fun y hy=>h y (by simp[hy])
theorem VX {e e':Operand->Option Value} {x:Option Operand} {K:Option Value->Option ρ} (h:∀ y,x=some y->e y=e' y):nQ e x K=nQ e' x K:=by
 cases x with
 | none=>rfl
 | some y=>simp only[nQ]; rw[h y rfl]
theorem mN {call:Gc} {q:Bool} {op:Op} {ty:TypeId} {e e':Operand->Option Value} {J:Aa} {K:Value->Aa->Option ρ} (h:∀ x ∈ op.operands,e x=e' x):Ii P call q op ty e J K=Ii P call q op ty e' J K:=by
 cases op <;> simp only[Op.operands] at h <;> simp only[Ii]
 case build t ps=>congr 1; funext z; exact VY fun p hp=>h p.2 (by simpa using ⟨p.1,by simpa using hp⟩)
 case buildSlice t n ps=>congr 1; funext E; congr 1; congr 1; funext z; exact VY fun p hp=>h p.2 (by simpa using ⟨p.1,by simpa using hp⟩)
 case makeFunc fn first captured=>
  split
  ·rfl
  rw[Pe (xs:=first.toList) fun x hx=>h x (by simp at hx; simp[hx])];congr 1; funext vs;exact Pe fun x hx=>h x (by simp at hx; simp[hx])
 case call c=>
  cases hc:c.callee with
  | builtin b=>simp only; exact Pe fun x hx=>h x (by simp at hx; simp[Call.operands,hx])
  | invoke r m=>rfl
  | value f=>
    simp only;rw[h f (by simp[Call.operands,hc])];congr 1; funext fv;exact Pe fun x hx=>h x (by simp at hx; simp[Call.operands,hx])
 case slice t x lo hi mx=>
  congr 1; funext E; congr 1; funext s;rw[h x (by simp)];congr 1; funext v;rw[VX fun y hy=>h y (by simp[hy])];congr 1; funext lo';rw[VX fun y hy=>h y (by simp[hy])];congr 1; funext hi';rw[VX fun y hy=>h y (by simp[hy])]
 case makeMap t r=>cases r <;> rfl
 all_goals (first | rfl | (simp_all; done))
open Classical in
def TK (o:Oper) (e:Operand->Option Value):Operand->Option Value:=fun x=>if x ∈ o.op.operands then e x else none
theorem J1 {o:Oper} {e:Operand->Option Value} {x:Operand} {u:Value} (h:TK o e x=some u):x ∈ o.op.operands/\e x=some u:=by
 unfold TK at h;split at h
 ·exact ⟨‹_›,h⟩
 ·cases h
theorem mO {call:Gc} {q:Bool} {o:Oper} {ty:TypeId} {e:Operand->Option Value} {J:Aa} {K:Value->Aa->Option ρ}:Ii P call q o.op ty e J K=Ii P call q o.op ty (TK o e) J K:=
 mN fun x hx=>by unfold TK; rw[yk hx]
structure X9 (P:Program) (o:Oper) (q:Bool) (e:Operand->Option Value) (J:Aa) (v:Value) (J':Aa):Prop where
 len:J.length<=J'.length
 wp:∀ (a:Act) (Z:Mu) (w:World),R P Z J w->GL Z J.length J'.length->(∀ x u,e x=some u->RV Z u (a.eval x))->kZ P o a w Z J v J'
 pure:F6 P o = .pure->J'=J/\Re P o e v
 ld:F6 P o = .ld->J'=J
 al:F6 P o = .al->(∀ c,o.op ≠ .call c)\/q=true->J <+: J'
 app:isApp o=true->q=true->J <+: J'
 more:Ov P o e J v J'
def yes (all:List Oper) (o:Oper) (regs:Bc):Prop:=
 match o.guard with
 | none=>True
 | some (j,want)=>MP all regs j=some (.bool want)
def no (all:List Oper) (o:Oper) (regs:Bc):Prop:=
 ∃ j want,o.guard=some (j,want)/\((∃ b,MP all regs j=some (.bool b)/\b≠want)\/MP all regs j=some undef)
inductive Tr (P:Program) (qf:Nat->QF) (all:List Oper):List (Nat × Oper)->Bc->Aa->Bc->Aa->Prop
 | nil {E:Bc} {J:Aa}:Tr P qf all [] E J E J
 | step {i:Nat} {o:Oper} {rest:List (Nat × Oper)} {E regs E':Bc} {J J1_ J':Aa} {v:Value} (hw:JO E regs) (hy:yes all o regs) (hf:X9 P o (qf i).1 (TK o (cf regs)) J v J1_) (hk:Kept (qf i).2 E J J1_)
   (ht:Tr P qf all rest (Jz E o.dst (some v)) J1_ E' J'):Tr P qf all ((i,o)::rest) E J E' J'
 | skip {i:Nat} {o:Oper} {rest:List (Nat × Oper)} {E regs E':Bc} {J J':Aa} (hw:JO E regs) (hn:no all o regs) (ht:Tr P qf all rest (Jz E o.dst (some undef)) J E' J'):Tr P qf all ((i,o)::rest) E J E' J'
theorem Tr.append {qf:Nat->QF} {all:List Oper} {a b:List (Nat × Oper)} {E E1 E2:Bc} {J J1_ J2_:Aa} (h:Tr P qf all a E J E1 J1_) (g:Tr P qf all b E1 J1_ E2 J2_):Tr P qf all (a++b) E J E2 J2_:=by
 induction h with
 | nil=>exact g
 | step hw hy hf hk ht ih=>exact .step hw hy hf hk (ih g)
 | skip hw hn ht ih=>exact .skip hw hn (ih g)
theorem Tr.len {qf:Nat->QF} {all:List Oper} {a:List (Nat × Oper)} {E E1:Bc} {J J1_:Aa} (h:Tr P qf all a E J E1 J1_):J.length<=J1_.length/\E1.length=E.length:=by
 induction h with
 | nil=>exact ⟨yj _,rfl⟩
 | step hw hy hf hk ht ih=>exact ⟨zj hf.len ih.1,by rw[ih.2,Ep]⟩
 | skip hw hn ht ih=>exact ⟨ih.1,by rw[ih.2,Ep]⟩
theorem Kt {regs:Bc} {d:Option Nat} {v:Option Value} {t:Nat} (h:d≠some t):(Jz regs d v).getD t none=regs.getD t none:=by
 cases d with
 | none=>rfl
 | some d=>
   simp only[Jz,IL];rw[ym];rintro ⟨rfl,_⟩; exact h rfl
theorem Tr.other {qf:Nat->QF} {all:List Oper} {a:List (Nat × Oper)} {E E1:Bc} {J J1_:Aa} (h:Tr P qf all a E J E1 J1_) {t:Nat} (ht:∀ io ∈ a,io.2.dst≠some t):E1.getD t none=E.getD t none:=by
 induction h with
 | nil=>rfl
 | @step i o rest E regs E' J J1_ J' v hw hy hf _ _ ih=>exact (ih fun io hio=>ht io (by simp[hio])).trans (Kt (ht (i,o) (by simp)))
 | @skip i o rest E regs E' J J' hw hn _ ih=>exact (ih fun io hio=>ht io (by simp[hio])).trans (Kt (ht (i,o) (by simp)))
theorem UY {t:Nat} {v:Value}:∀ {ops:List (Nat × Oper)} {regs:Bc},(Mc regs ops).getD t none=some v->regs.getD t none=some v /\ ∀ io ∈ ops,io.2.dst=some t->¬ t<regs.length
 | [],regs,h=>⟨h,by simp⟩
 | io::rest,regs,h=>by
   simp only[Mc] at h;obtain ⟨h1,h2⟩:=UY h;by_cases hd:io.2.dst=some t
   ·rw[hd] at h1;simp only[Jz,IL] at h1;by_cases hl:t<regs.length
    ·simp[hl] at h1
    ·rw[ym (by simp[hl])] at h1;refine ⟨h1,fun io' hio' hd'=>?_⟩;exact hl
   ·rw[Kt hd] at h1;refine ⟨h1,fun io' hio' hd'=>?_⟩;rcases yL.1 hio' with rfl | hio'
    ·exact absurd hd' hd
    ·have:=h2 io' hio' hd'; rwa [Ep] at this
theorem Z8 {qf:Nat->QF} {all:List Oper}:∀ {ops:List (Nat × Oper)} {regs regs' E:Bc} (J:Aa),Qq all ops regs=some regs'->JO E regs->regs.length=E.length -> ∃ E',Tr P qf all ops E J E' J/\JO E' regs'/\regs'.length=E'.length
 | [],regs,regs',E,J,h,hw,hl=>by
   simp[Qq] at h; subst h; exact ⟨E,.nil,hw,hl⟩
 | io::rest,regs,regs',E,J,h,hw,hl=>by
   simp only[Qq] at h;split at h
   ·cases h
   ·rename_i j want hg;have done:no all io.2 regs->Qq all rest (Jz regs io.2.dst (some undef))=some regs' -> ∃ E',Tr P qf all (io::rest) E J E' J/\JO E' regs'/\regs'.length=E'.length:=by
     intro hn h;obtain ⟨E',h1,h2,h3⟩:=Z8 J h (hw.put hl _ _) (by rw[Ep,Ep]; exact hl);exact ⟨E',.skip hw hn h1,h2,h3⟩
    split at h
    ·rename_i b hr;cases hbw:(b == want) with
     | true=>rw[hbw] at h; cases h
     | false=>
       rw[hbw] at h;exact done ⟨j,want,hg,.inl ⟨b,hr,by simpa using hbw⟩⟩ h
    ·rename_i vs hr;cases he:vs.toList.isEmpty with
     | false=>rw[he] at h; cases h
     | true=>
       rw[he] at h;refine done ⟨j,want,hg,.inr ?_⟩ h;have:vs = #[]:=by
        cases vs with
        | mk l=>cases l <;> simp_all
       rw[hr,this]; rfl
    ·cases h
theorem gG {all:List Oper} {E regs:Bc} {j:Nat} {b:Bool} (hw:JO E regs) (h:MP all regs j=some (.bool b)):JO E (Jz regs (Pc all j) (some (.bool b))):=by
 unfold MP at h;split at h
 ·rename_i d hd;rw[hd];intro t v;simp only[Jz,IL];split
  ·rename_i hc;intro hv;rw[<- hc.1];rw[<- hv];exact hw _ _ h
  ·exact hw t v
 ·cases h
theorem Pt {call:Gc} (hcall:TP P call) {qf:Nat->QF} {all:List Oper}:∀ (fuel:Nat) {ρ:Type} {known:List (Nat × Bool)} {ops:List (Nat × Oper)} {regs E:Bc} {J:Aa} {K:Bc->Aa->Option ρ} {r:ρ},
  JR P call qf all fuel ρ known ops regs J K=some r->JO E regs->regs.length=E.length -> ∃ regs' E' J',Tr P qf all ops E J E' J'/\JO E' regs'/\regs'.length=E'.length/\K regs' J'=some r
 | 0,ρ,known,ops,regs,E,J,K,r,h,hw,hl=>by simp[JR] at h
 | fuel+1,ρ,known,ops,regs,E,J,K,r,h,hw,hl=>by
   cases ops with
   | nil=>simp only[JR] at h; exact ⟨regs,E,J,.nil,hw,hl,h⟩
   | cons io rest=>
     have one:yes all io.2 regs->(Ii P call (qf io.1).1 io.2.op io.2.type (cf regs) J fun v J'=>RR (qf io.1).2 regs J J' (JR P call qf all fuel ρ known rest (Jz regs io.2.dst (some v)) J' K))=some r ->
       ∃ regs' E' J',Tr P qf all (io::rest) E J E' J'/\JO E' regs'/\regs'.length=E'.length/\K regs' J'=some r:=by
      intro hy h;rw[mO] at h;obtain ⟨v,J1_,h1,h2,h3,h4,h5,h6⟩:=vM hcall h;obtain ⟨h1,hk⟩:=Of h1;obtain ⟨regs',E',J',g1,g2,g3,g4⟩:=Pt hcall fuel h1 (hw.put hl _ _) (by rw[Ep,Ep]; exact hl);exact ⟨regs',E',J',.step hw hy ⟨h2,h3,h4,h5,h6.1,h6.2.1,h6.2.2⟩ (fun t ht=>Or.imp (fun ⟨a,ha⟩=>⟨a,hw t _ ha.1,ha.2⟩) (fun ⟨a,l,c,ha⟩=>⟨a,l,c,hw t _ ha.1,ha.2⟩) (hk t ht)) g1,g2,g3,g4⟩
     simp only[JR] at h;split at h
     ·rename_i hg;exact one (by unfold yes; rw[hg]; trivial) h
     ·rename_i j want hg;cases hk:known.contains (j,want) with
      | true=>
        rw[hk] at h;simp only[IT] at h;split at h
        ·rename_i b hr;cases hbw:(b == want) with
         | false=>rw[hbw] at h; cases h
         | true=>
           rw[hbw] at h;have:b=want:=by simpa using hbw
           subst this;exact one (by unfold yes; rw[hg]; exact hr) h
        ·cases h
      | false=>
        rw[hk] at h;simp only[By] at h;split at h
        ·cases h
        ·rename_i body p after hsp;have hrest:=Qs hsp;simp only at hrest;split at h
         ·rename_i b hr;simp only[IS] at h;obtain ⟨⟨rb,J1_⟩,h1,h2⟩:=h;rw[qw] at h1;have grp:∃ regs1 E1,Tr P qf all (io::(body++[p])) E J E1 J1_/\JO E1 regs1/\(p.2.dst.bind fun d=>regs1.getD d none)=some (.bool rb):=by
           have fin:∀ (regs':Bc) (J':Aa),(((p.2.dst.bind fun d=>regs'.getD d none).bind DK).bind fun r=>some (r,J'))=some (rb,J1_)->(p.2.dst.bind fun d=>regs'.getD d none)=some (.bool rb)/\J'=J1_:=by
            intro regs' J' hq;rw[IS] at hq;obtain ⟨x,hx,hxx⟩:=hq;rw[IS] at hx;obtain ⟨y,hy,hyy⟩:=hx;cases hxx;refine ⟨?_,rfl⟩;rw[hy];cases y <;> simp[DK] at hyy;rw[hyy]
           cases hbw:(b == want) with
           | true=>
             rw[hbw] at h1;simp only[IT] at h1;have:b=want:=by simpa using hbw
             subst this;obtain ⟨regs',E',J',g1,g2,g3,g4⟩:=Pt hcall fuel h1 (gG hw hr) (by rw[Ep]; exact hl);obtain ⟨k1,rfl⟩:=fin _ _ g4;exact ⟨regs',E',g1,g2,k1⟩
           | false=>
             rw[hbw] at h1;simp only[By,IS] at h1;obtain ⟨regs2,hs,h1⟩:=h1;have:b = !want:=by
              have:b≠want:=by simpa using hbw
              cases b <;> cases want <;> simp_all
             subst this;obtain ⟨E2,s1,s2,s3⟩:=Z8 (P:=P) (qf:=qf) J hs (gG hw hr) (by rw[Ep]; exact hl);obtain ⟨regs',E',J',g1,g2,g3,g4⟩:=Pt hcall fuel h1 s2 s3;obtain ⟨k1,rfl⟩:=fin _ _ g4;exact ⟨regs',E',s1.append g1,g2,k1⟩
          obtain ⟨regs1,E1,t1,t2,t3⟩:=grp;have hE1:=t1.len.2;have hw2:JO E1 (Jz (Mc regs (io::body)) p.2.dst (some (.bool rb))):=by
           cases hpd:p.2.dst with
           | none=>rw[hpd] at t3; cases t3
           | some pd=>
             rw[hpd] at t3;simp only[AI] at t3;intro t v;simp only[Jz,IL];split
             ·rename_i hc;intro hv; cases hv;rw[<- hc.1]; exact t2 _ _ t3
             ·rename_i hc;intro hv;obtain ⟨m1,m2⟩:=UY hv;have htl:t<regs.length:=by
               rcases zL t regs.length with h | h
               ·exact h
               ·rw[yd,zg h] at m1; cases m1
              rw[t1.other]
              ·exact hw _ _ m1
              ·intro io' hio' hd;rcases yL.1 hio' with rfl | hio'
               ·exact m2 io' (by simp) hd htl
               ·rcases yf.1 hio' with hio' | hio'
                ·exact m2 io' (by simp[hio']) hd htl
                ·simp at hio'; subst hio';rw[hpd] at hd; cases hd;apply hc;refine ⟨rfl, ?_⟩;have:∀ (l:List (Nat × Oper)) (r:Bc),(Mc r l).length=r.length:=by
                  intro l
                  induction l with
                  | nil=>intro r; rfl
                  | cons a l ih=>intro r; simp only[Mc]; rw[ih,Ep]
                 rw[this]; exact htl
          have hlen2:(Jz (Mc regs (io::body)) p.2.dst (some (.bool rb))).length=E1.length:=by
           have:∀ (l:List (Nat × Oper)) (r:Bc),(Mc r l).length=r.length:=by
            intro l
            induction l with
            | nil=>intro r; rfl
            | cons a l ih=>intro r; simp only[Mc]; rw[ih,Ep]
           rw[Ep,this,hE1]; exact hl
          obtain ⟨regs',E',J',g1,g2,g3,g4⟩:=Pt hcall fuel h2 hw2 hlen2;refine ⟨regs',E',J', ?_,g2,g3,g4⟩;rw[hrest];have:=t1.append g1;simpa using this
         ·cases h
end
end
end Go.AX
