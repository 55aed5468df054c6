/- An operation's walk, in a round's frame too: every operation but a defer is carried out there as anywhere.; Every operation: what it comes to in a wal -/
import Derived.RangeFuncCalls
import Derived.OrdersIn
import Derived.TacticsIn
import Derived.Test.YtjbledomkmdkmaaGreatP3
set_option linter.unusedVariables false
set_option linter.unusedSimpArgs false
set_option linter.unusedSectionVars false
section
namespace Go.AX
open Go
variable {P:Program}
abbrev FW (r:Option Nat):Fence:={ Fence.wide with round:=r }
theorem yX {r:Option Nat} {n:Nat} {f:FuncId} {args:Array Value} {w:World} {R:Ending→World→Prop} (h:Calls P f args w R):CallsIn (FW r) n P f args w R:=by
 have h1:CallsIn Fence.wide n P f args w R:=callsIn_wide.2 h
 cases r with
 | none=>exact h1
 | some l=>exact CallsIn.inRound l h1
theorem Ajk {r:Option Nat} {n:Nat} {row:String} {args:Array Value} {w:World} {R:Value→World→Prop} (h:Rows P row args w R):RowsIn (FW r) n P row args w R:=by
 have h1:RowsIn Fence.wide n P row args w R:=fun c cs _=>let ⟨v,w',x,s⟩:=h c cs; ⟨v,w',x,stepsIn_wide.2 s⟩
 cases r with
 | none=>exact h1
 | some l=>exact h1
theorem St {r:Option Nat} {n:Nat} {o:Oper} {a:Act} {w:World} {next:Act→World→Prop} {Q:Exit→Act→World→Prop} (hd:∀ c,o.op ≠ .defer c) (h:o.wp P a w next Q):o.wpIn (FW r) n P a w next Q:=by
 refine ⟨fun _ _=>trivial, ?_⟩
 rw[show (FW r).round=r from rfl,Oper.semAt_eq r a.eval o hd]
 unfold Oper.wp at h
 generalize (execOp a.eval o).run P w=res at h ⊢
 unfold Oper.upon at h
 unfold Oper.uponIn
 split at h
 ·exact h
 ·exact h
 ·exact h
 ·refine ⟨fun hh=>(by cases hh),(yX h).mono ?_⟩
  intro e w' he
  cases e <;> exact he
 ·exact ⟨fun hh=>(by cases hh),Ajk h⟩
 ·exact h
 ·exact h.elim
theorem VQ {o:Oper} {a:Act} {w w':World} {x:Next} (h:(execOp a.eval o).run P w = .ok x w') (hn:∀ d,x ≠ .defer d):∀ c,o.op ≠ .defer c:=by
 intro c hc
 unfold execOp at h
 rw[hc] at h
 simp only[Sem.run_bind] at h
 cases hr:(resolve a.eval c o.type).run P w with
 | ok d w1=>
   rw[hr] at h
   simp only[Result.andThen_ok,Sem.run_pure,Result.ok.injEq] at h
   exact hn _ h.1.symm
 | halt y w1=>
   rw[hr] at h
   simp[Result.andThen] at h
end Go.AX
end
section
namespace Go.AX
open Go
variable {ρ:Type} {P:Program} [A9]
def Afx (P:Program) (μ:Mu) (σ:Aa) (w:World) (v:Value) (σ':Aa) (e:Ending) (w':World):Prop:=
 ∃ μ' v',e = .returned v'∧RV μ' v v'∧R P μ' σ' w'∧Step μ σ w μ' σ' w'
def yR (P:Program) (args:List Value) (σ:Aa) (v:Value) (σ':Aa):Prop:=
 ∃ a vs,args = .pointer (some a)::vs ∧ ∀ (μ:Mu) (w:World) (k:kT) (cargs:Array Value),R P μ σ w→Ia μ σ.length σ'.length→μ a.block=some k→KE μ vs cargs.toList →
  ∃ fn tmps asg body,(Instr.yield k.b cargs).run P w = .ok (.round k.b fn tmps asg body) w ∧ ∀ ro nn,RoundIn (FW ro) nn P k.b fn tmps asg body w (Afx P μ σ w v σ')
structure Xj (P:Program) (call:GM):Prop where
 fn:∀ f args σ v σ',f≠YF→call f args σ=some (v,σ')→σ.length≤σ'.length∧(va P f=true→σ <+: σ')∧(∃ F,P.funcs[f]?=some F∧F.body.isSome=true∧(F.name == "runtime.NumGoroutine")=false) ∧
  ∀ (μ:Mu) (w:World) (cargs:Array Value),R P μ σ w→Ia μ σ.length σ'.length→KE μ args cargs.toList→Calls P f cargs w (Afx P μ σ w v σ')
 yld:∀ args σ v σ',call YF args σ=some (v,σ')→σ.length≤σ'.length∧yR P args σ v σ'
def zO (P:Program) (o:Oper) (a:Act) (w:World) (μ:Mu) (σ:Aa) (v:Value) (σ':Aa):Prop:=
 ∀ (ro:Option Nat) (nn:Nat) (next:Act→World→Prop) (Q:Exit→Act→World→Prop),(∀ μ' v' w',RV μ' v v'→R P μ' σ' w'→Step μ σ w μ' σ' w'→next (a.put o.dst v') w')→o.wpIn (FW ro) nn P a w next Q
theorem WO {o:Oper} {a:Act} {w:World} {μ:Mu} {σ σ':Aa} {v:Value} (h:yJ P μ σ w v σ' ((execOp a.eval o).run P w)):zO P o a w μ σ v σ':=by
 intro ro nn next Q hn
 obtain ⟨μ',v',w',hres,h1,h2,h3⟩:=h
 rcases hres with hres | ⟨hres,rfl⟩
 ·refine St (VQ hres (by intro d hd; cases hd)) ?_
  unfold Oper.wp
  rw[hres,Oper.upon_value]; exact hn μ' v' w' h1 h2 h3
 ·refine St (VQ hres (by intro d hd; cases hd)) ?_
  unfold Oper.wp
  rw[hres,Oper.upon_skip]; exact hn μ' undef w' h1 h2 h3
theorem tM {o:Oper} {a:Act} {w:World} {μ:Mu} {σ:Aa} {v:Value} {e:Operand→Option Value} (h:bC P o e v) (hR:R P μ σ w) (he:∀ x u,e x=some u→RV μ u (a.eval x)):zO P o a w μ σ v σ:=by
 obtain ⟨v',h1,h2⟩:=h μ w a.eval he
 exact WO ⟨μ,v',w,.inl h1,h2,hR,Step.refl _ _ _⟩
theorem xV {o:Oper} {a:Act} {w:World} {μ:Mu} {σ:Aa} {v:Value} {e:Operand→Option Value} (h:ig P o e σ v) (hR:R P μ σ w) (he:∀ x u,e x=some u→RV μ u (a.eval x)):zO P o a w μ σ v σ:=by
 obtain ⟨v',h1,h2⟩:=h μ w a.eval hR he
 exact WO ⟨μ,v',w,.inl h1,h2,hR,Step.refl _ _ _⟩
theorem tU {σ σ':Aa} {m:Option ρ} {r:ρ} (h:QE σ σ' m=some r):σ <+: σ'∧m=some r:=by
 unfold QE at h
 cases hq:A9.q σ σ' with
 | true=>rw[hq] at h; exact ⟨A9.ok hq,h⟩
 | false=>rw[hq] at h; cases h
theorem yh {t:TypeId} {nm:String} {f:FuncId} {w:World} {v:Value} (h:UH P t nm=some f):(method (P.types.size+Made.depth) t v nm).run P w = .ok (f,v) w:=by
 unfold UH at h
 split at h
 ·cases h
 rename_i i hi
 split at h
 ·cases h
 rename_i m hm
 have hti:(typeInfo t).run P w = .ok i w:=by
  simp[typeInfo,hi,go_sem]
 have hd:P.types.size+Made.depth=(P.types.size+Made.depth-1)+1:=by
  have:0<Made.depth:=by decide
  omega
 rw[hd,method]
 split at h
 ·rename_i h1 h2 h3
  cases h
  simp only[Sem.run_bind,hti,Result.andThen_ok,hm,Sem.run_pure,h1,follow,h2,receiverAt,run_underlying h3,Place.get]
 ·rename_i h1 h2 h3
  cases h
  simp only[Sem.run_bind,hti,Result.andThen_ok,hm,Sem.run_pure,h1,follow,h2,receiverAt,run_underlying h3,Place.get]
 ·cases h
theorem Ael {call:GM} (hcall:Xj P call) {c:Call} {fo:Operand} {q:Bool} {ty:TypeId} {e:Operand→Option Value} {σ:Aa} {K:Value→Aa→Option ρ} {r:ρ} {o:Oper} (ho:o.op = .call c) (hc:c.callee = .value fo)
  (h:Kx P call q (.call c) ty e σ K=some r):∃ v σ',K v σ'=some r∧σ.length≤σ'.length∧(q=true→σ <+: σ') ∧
   ∀ (a:Act) (μ:Mu) (w:World),R P μ σ w→Ia μ σ.length σ'.length→(∀ x u,e x=some u→RV μ u (a.eval x))→zO P o a w μ σ v σ':=by
 simp only[Kx,hc,Option.bind_eq_some_iff] at h
 obtain ⟨fv,hfv,h⟩:=h
 obtain ⟨vs,h1,hvs⟩:=QA h
 clear h
 simp only[Option.bind_eq_some_iff] at h1
 obtain ⟨⟨v,σ'⟩,hcl,h1⟩:=h1
 have hK:K v σ'=some r∧(q=true→yY P fv=false→σ <+: σ'):=by
  cases hb:(q && !yY P fv) with
  | true=>
    rw[hb] at h1
    simp only[Tf,cond_true] at h1
    obtain ⟨h2,h3⟩:=tU h1
    exact ⟨Zk h3,fun _ _=>h2⟩
  | false=>
    rw[hb] at h1
    simp only[Tf,cond_false] at h1
    refine ⟨Zk h1,fun hq hv=>?_⟩
    rw[hq,hv] at hb; cases hb
 unfold ID at hcl
 split at hcl
 rotate_left
 ·rename_i l first cap
  obtain ⟨hlen,a0,us,hau,hy⟩:=hcall.yld _ _ _ _ hcl
  cases hau
  refine ⟨v,σ',hK.1,hlen,fun hq=>hK.2 hq rfl,fun a μ w hR hfr he=>?_⟩
  intro ro nn next Q hn
  have hrf:=he fo _ hfv
  generalize hafo:a.eval fo=af at hrf
  cases hrf with
  | @func _ _ first' _ cap' hny h1' h2'=>exact absurd rfl (hny _)
  | @yield _ k hh=>
    obtain ⟨fn,tmps,asg,body,hyr,hround⟩:=hy μ w k (c.args.map a.eval) hR hfr hh (by simpa using hvs μ a.eval he)
    have hrun:(execOp a.eval o).run P w = .ok (.round k.b fn tmps asg body) w:=by
     have hex:execOp a.eval o=(do let d ← resolve a.eval c o.type; invoke d.target d.args:Sem Next):=by
      unfold execOp; rw[ho]
     rw[hex]
     simp only[resolve,hc,hafo,Deferred.ofValue,pure_bind,invoke,Array.empty_append]
     exact hyr
    refine ⟨fun _ _=>trivial, ?_⟩
    rw[show (FW ro).round=ro from rfl,Oper.semAt_eq ro a.eval o (VQ hrun (by intro d hd; cases hd)),hrun,Oper.uponIn_round]
    refine ⟨fun hh=>(by cases hh),(hround ro _).mono ?_⟩
    rintro e' w' ⟨μ',v',rfl,g1,g2,g3⟩
    exact hn μ' v' w' g1 g2 g3
 ·rename_i nm first cap
  split at hcl
  rotate_left
  ·cases hcl
  rename_i t rv rest hl
  simp only[Option.bind_eq_some_iff] at hcl
  obtain ⟨f,hm,hcl⟩:=hcl
  obtain ⟨hny,hcl⟩:=tK hcl
  obtain ⟨hlen,hcalm,⟨F,hF,hbody,hname⟩,hcalls⟩:=hcall.fn _ _ _ _ _ hny hcl
  refine ⟨v,σ',hK.1,hlen,fun hq=>hK.2 hq rfl,fun a μ w hR hfr he=>?_⟩
  intro ro nn next Q hn
  have hrf:=he fo _ hfv
  generalize hafo:a.eval fo=af at hrf
  cases hrf with
  | @func _ _ first' _ cap' _ h1' h2'=>
    have hargs:=h1'.append (hvs μ a.eval he)
    rw[hl] at hargs
    generalize hll:first'.toList++c.args.toList.map a.eval=ll at hargs
    cases hargs with
    | cons hrv hrest=>
    cases hrv with
    | iface hrv=>
    rename_i rest' rv'
    have harr:first'++c.args.map a.eval=(Value.iface t rv'::rest').toArray:=by
     apply Array.toList_inj.1; simpa using hll
    have hc':=hcalls μ w (#[rv']++rest'.toArray) hR hfr (by simpa using KE.cons hrv hrest)
    have hmeth:=yh (w:=w) (v:=rv') hm
    have hrun:(execOp a.eval o).run P w = .ok (.enter f (#[rv']++rest'.toArray)) w:=by
     have hex:execOp a.eval o=(do let d ← resolve a.eval c o.type; invoke d.target d.args:Sem Next):=by
      unfold execOp; rw[ho]
     rw[hex]
     have hb:F.body.isNone=false:=by cases hq:F.body <;> simp_all
     have hmeth':(method (P.types.size+Made.depth) t rv' nm).run P w = .ok (f,rv') w:=hmeth
     have hx:((Value.iface t rv'::rest').toArray.extract 1 (Value.iface t rv'::rest').toArray.size)=rest'.toArray:=by simp
     simp only[resolve,hc,hafo,Deferred.ofValue,pure_bind,invoke,harr,List.getElem?_toArray,List.getElem?_cons_zero,callMethod,hx,callFunc,Sem.run_bind,run_program,Result.andThen_ok,hmeth',hF,hname,hb,Bool.false_eq_true,if_false,Sem.run_pure]
    refine St (VQ hrun (by intro d hd; cases hd)) ?_
    unfold Oper.wp
    rw[hrun,Oper.upon_enter]
    refine hc'.mono ?_
    rintro e' w' ⟨μ',v',rfl,g1,g2,g3⟩
    exact hn μ' v' w' g1 g2 g3
 ·cases hcl
 rename_i f first cap
 obtain ⟨hny,hcl⟩:=tK hcl
 obtain ⟨hlen,hcalm,⟨F,hF,hbody,hname⟩,hcalls⟩:=hcall.fn _ _ _ _ _ hny hcl
 refine ⟨v,σ',hK.1,hlen,(fun hq=>by
  cases hcv:va P f with
  | true=>exact hcalm hcv
  | false=>exact hK.2 hq hcv),fun a μ w hR hfr he=>?_⟩
 intro ro nn next Q hn
 have hrf:=he fo _ hfv
 generalize hafo:a.eval fo=af at hrf
 cases hrf with
 | @func _ _ first' _ cap' _ h1' h2'=>
   have hargs:=(h1'.append (hvs μ a.eval he)).append h2'
   have hc':=hcalls μ w (first'++(c.args.map a.eval)++cap') hR hfr (by simpa using hargs)
   have hrun:(execOp a.eval o).run P w = .ok (.enter f (first'++(c.args.map a.eval)++cap')) w:=by
    have hex:execOp a.eval o=(do let d ← resolve a.eval c o.type; invoke d.target d.args:Sem Next):=by
     unfold execOp; rw[ho]
    rw[hex]
    have hb:F.body.isNone=false:=by cases hq:F.body <;> simp_all
    simp only[resolve,hc,hafo,Deferred.ofValue,pure_bind,invoke,callFunc,Sem.run_bind,run_program,Result.andThen_ok,hF,hname,hb,Bool.false_eq_true,if_false,Sem.run_pure]
   refine St (VQ hrun (by intro d hd; cases hd)) ?_
   unfold Oper.wp
   rw[hrun,Oper.upon_enter]
   refine hc'.mono ?_
   rintro e' w' ⟨μ',v',rfl,g1,g2,g3⟩
   exact hn μ' v' w' g1 g2 g3
structure Xl (P:Program) (o:Oper) (e:Operand→Option Value) (σ:Aa) (v:Value) (σ':Aa):Prop where
 load:∀ T x,o.op = .load T x → ∃ a,e x=some (.pointer (some a)) ∧ ∀ σ2:Aa,σ2[a.block]?=σ[a.block]?→ig P o e σ2 v
 fa:∀ T x f,o.op = .fieldAddr T x f → ∃ a a',e x=some (.pointer (some a))∧v = .pointer (some a')∧a'.block=a.block
 st:∀ T x y,o.op = .store T x y → ∃ a,e x=some (.pointer (some a)) ∧ ∀ b,b≠a.block→σ'[b]?=σ[b]?
 al:∀ T,o.op = .alloc T → ∃ a,v = .pointer (some a)∧a.block=σ.length
 mv:∀ x,o.op = .move x∨o.op = .nilCheck x→e x=some v
 sl:∀ T x lo hi mx,o.op = .slice T x lo hi mx → ∃ a l c,e x=some (.slice a l c) ∧ ∀ σ2:Aa,(∀ b:Addr,a=some b→σ2[b.block]?=σ[b.block]?)→ig P o e σ2 v
theorem lR {o:Oper} {e:Operand→Option Value} {σ σ':Aa} {v:Value} (h1:∀ T x,o.op ≠ .load T x) (h2:∀ T x f,o.op ≠ .fieldAddr T x f) (h3:∀ T x y,o.op ≠ .store T x y) (h4:∀ T,o.op ≠ .alloc T) (h5:∀ x,¬ (o.op = .move x∨o.op = .nilCheck x)) (h6:∀ T x lo hi mx,o.op ≠ .slice T x lo hi mx):Xl P o e σ v σ':=
 ⟨fun T x h=>absurd h (h1 T x),fun T x f h=>absurd h (h2 T x f),fun T x y h=>absurd h (h3 T x y),fun T h=>absurd h (h4 T),fun x h=>absurd h (h5 x),fun T x lo hi mx h=>absurd h (h6 T x lo hi mx)⟩
theorem Ag0 {o:Oper} {call:GM} {q:Bool} {e:Operand→Option Value} {σ:Aa} {K:Value→Aa→Option ρ} {r:ρ} (hc:Gm P o = .al) (hnc:∀ c,o.op ≠ .call c)
  (h:Kx P call q o.op o.type e σ K=some r):∃ v x,K v (σ++[x])=some r∧Aj5 P o e σ v (σ++[x]) ∧ ∀ T,o.op = .alloc T → ∃ a,v = .pointer (some a)∧a.block=σ.length:=by
 by_cases ha:∃ T,o.op = .alloc T
 ·obtain ⟨T,ho⟩:=ha
  have h0:=h
  rw[ho] at h0
  simp only[Kx,Option.bind_eq_some_iff] at h0
  obtain ⟨z,hz,h0⟩:=h0
  split at h0
  rotate_left
  ·cases h0
  rename_i hz1
  have e2:Kx P call q o.op o.type e σ (fun v s=>some (v,s))=some (.pointer (some ⟨σ.length,0,none⟩),σ++[.cells z.cells.toList T true]):=by
   rw[ho]; simp only[Kx,hz,Option.bind_some,hz1,if_true]
  obtain ⟨v2,x2,g1,g2⟩:=xW hc hnc e2
  simp only[Option.some.injEq,Prod.mk.injEq] at g1
  obtain ⟨g4,g3⟩:=g1
  subst g4
  refine ⟨_,x2, ?_,g2,fun T' _=>⟨_,rfl,rfl⟩⟩
  rw[g3]; exact h0
 ·obtain ⟨v,x,h1,h2⟩:=xW hc hnc h
  exact ⟨v,x,h1,h2,fun T h=>absurd ⟨T,h⟩ ha⟩
theorem na {k:Kd} {σ:Aa} {b o:Nat} (K:Value→Option ρ):ldK k σ b o K=(ldK k σ b o some).bind K:=by
 cases k <;> simp[ldK,Option.bind_assoc]
theorem iX {σ:Aa} {b:Nat}:∀ (ks:List Kd) (o:Nat) {ρ:Type} (K:List Value→Option ρ),oW ks σ b o K=(oW ks σ b o some).bind K
 | [],o,ρ,K=>rfl
 | k::ks,o,ρ,K=>by
   simp only[oW]
   rw[na,na (K:=fun v=>oW ks σ b (o+1) fun vs=>some (v::vs)),Option.bind_assoc]
   congr 1; funext v
   rw[iX ks (o+1) (fun vs=>K (v::vs)),iX ks (o+1) (fun vs=>some (v::vs)),Option.bind_assoc]
   congr 1
theorem Ajb {σ σ2:Aa} {b o:Nat} (h:σ2[b]?=σ[b]?):Gi σ2 b o=Gi σ b o:=by unfold Gi; rw[h]
theorem Aea {σ σ2:Aa} {k:Kd} {b o:Nat} (h:σ2[b]?=σ[b]?) (K:Value→Option ρ):ldK k σ2 b o K=ldK k σ b o K:=by
 cases k <;> simp only[ldK,Dg,lO,rS,L8,Hx,ldM,Ajb h]
theorem zk {σ σ2:Aa} {b:Nat} (h:σ2[b]?=σ[b]?):∀ (ks:List Kd) (o:Nat) (K:List Value→Option ρ),oW ks σ2 b o K=oW ks σ b o K
 | [],o,K=>rfl
 | k::ks,o,K=>by
   simp only[oW]
   rw[Aea h]
   congr 1; funext v
   exact zk h ks (o+1) _
theorem qN {T:TypeId} {x:Operand} {call:GM} {q:Bool} {ty:TypeId} {e:Operand→Option Value} {σ:Aa} {K:Value→Aa→Option ρ} {r:ρ} {o:Oper} (ho:o.op = .load T x)
  (h:Kx P call q (.load T x) ty e σ K=some r):∃ v,K v σ=some r∧ig P o e σ v∧Xl P o e σ v σ:=by
 simp only[Kx,Option.bind_eq_some_iff] at h
 obtain ⟨p,hp,h⟩:=h
 split at h
 rotate_left
 ·cases h
 rename_i a0
 obtain ⟨a,ha0,h2⟩:=Option.bind_eq_some_iff.1 h
 clear h
 subst ha0
 have h:=h2
 clear h2
 have main:∃ v,K v σ=some r ∧ ∀ σ2:Aa,σ2[a.block]?=σ[a.block]?→Kx P call q (.load T x) ty e σ2 (fun v _=>some v)=some v:=by
  cases hb:NB P T with
  | true=>
    rw[hb,cond_true] at h
    split at h
    rotate_left
    ·cases h
    rename_i hsz
    rw[iX] at h
    obtain ⟨vs,h1,h2⟩:=Option.bind_eq_some_iff.1 h
    refine ⟨_,h2,fun σ2 hq=>?_⟩
    simp only[Kx,hp,Option.bind_some,hb,cond_true]
    rw[if_pos hsz,iX,zk hq,h1]; rfl
  | false=>
    rw[hb,cond_false] at h
    obtain ⟨d,hd,h⟩:=Option.bind_eq_some_iff.1 h
    rw[na] at h
    obtain ⟨v,h1,h2⟩:=Option.bind_eq_some_iff.1 h
    refine ⟨v,h2,fun σ2 hq=>?_⟩
    simp only[Kx,hp,Option.bind_some,hb,cond_false,hd]
    rw[na,Aea hq,h1]; rfl
 obtain ⟨v,hK,hat⟩:=main
 have at2:∀ σ2:Aa,σ2[a.block]?=σ[a.block]?→ig P o e σ2 v:=fun σ2 hq=>by
  obtain ⟨v2,h1,h2⟩:=vJ ho (hat σ2 hq)
  cases h1
  exact h2
 refine ⟨v,hK,at2 σ rfl,⟨fun T' x' h'=>?_,fun T' x' f' h'=>by (rw[ho] at h'; cases h'),fun T' x' f' h'=>by (rw[ho] at h'; cases h'),fun T' h'=>by (rw[ho] at h'; cases h'),fun x' h'=>by (rcases h' with h' | h' <;> (rw[ho] at h'; cases h')),fun T' x' l1 l2 l3 h'=>by (rw[ho] at h'; cases h')⟩⟩
 rw[ho] at h'
 cases h'
 exact ⟨a,hp,at2⟩
theorem vI {T:TypeId} {x:Operand} {fl:Nat} {call:GM} {q:Bool} {e:Operand→Option Value} {σ:Aa} {K:Value→Aa→Option ρ} {r:ρ} {o:Oper} (ho:o.op = .fieldAddr T x fl)
  (h:Kx P call q o.op o.type e σ K=some r):∃ v,K v σ=some r∧bC P o e v∧Xl P o e σ v σ:=by
 have h0:=h
 rw[ho] at h
 simp only[Kx,Option.bind_eq_some_iff] at h
 obtain ⟨ot,hot,p,hp,h⟩:=h
 split at h
 rotate_left
 ·cases h
 obtain ⟨a,ha0,h1⟩:=Option.bind_eq_some_iff.1 h
 clear h
 subst ha0
 obtain ⟨s,hs,h2⟩:=Option.bind_eq_some_iff.1 h1
 clear h1
 split at h2
 ·cases h2
 rename_i hs0
 have e2:Kx P call q o.op o.type e σ (fun v _=>some v)=some (.pointer (some ⟨a.block,a.off+ot.1,none⟩)):=by
  rw[ho]
  simp only[Kx,hot,hp,hs,Option.bind_some,hs0,if_false]
 obtain ⟨v2,g1,g2⟩:=Yy (by unfold Gm; rw[ho]) e2
 cases g1
 refine ⟨_,h2,g2,⟨fun T' x' h'=>(by rw[ho] at h'; cases h'),fun T' x' f' h'=>?_,fun T' x' f' h'=>by (rw[ho] at h'; cases h'),fun T' h'=>by (rw[ho] at h'; cases h'),fun x' h'=>by (rcases h' with h' | h' <;> (rw[ho] at h'; cases h')),fun T' x' l1 l2 l3 h'=>by (rw[ho] at h'; cases h')⟩⟩
 rw[ho] at h'
 cases h'
 exact ⟨a,_,hp,rfl,rfl⟩
theorem Aaq {σ σ2:Aa} {b:Nat} (h:σ2[b]?=σ[b]?):elemAt σ2 b=elemAt σ b:=by unfold elemAt; rw[h]
theorem Aby {E:TypeId} {s:Nat} {v:Ce} {lo hi mx:Option Value} {σ σ2:Aa} (h:∀ b:Addr,v.1=some b→σ2[b.block]?=σ[b.block]?):HK E s v lo hi mx σ2=HK E s v lo hi mx σ:=by
 obtain ⟨a,l,c⟩:=v
 cases a with
 | none=>rfl
 | some b=>simp only[HK,Option.bind_some,Aaq (h b rfl)]
theorem tA {e:Operand→Option Value} {x:Option Operand} {α:Type} {K:Option Value→Option α} {r:α} (h:evo e x K=some r):∃ y,K y=some r ∧ ∀ {β:Type} (K':Option Value→Option β),evo e x K'=K' y:=by
 cases x with
 | none=>exact ⟨none,h,fun K'=>rfl⟩
 | some x=>
   simp only[evo] at h
   obtain ⟨v,hv,h⟩:=Option.bind_eq_some_iff.1 h
   exact ⟨some v,h,fun K'=>by simp only[evo,hv,Option.bind_some]⟩
theorem vL {T:TypeId} {x:Operand} {lo hi mx:Option Operand} {call:GM} {q:Bool} {e:Operand→Option Value} {σ:Aa} {K:Value→Aa→Option ρ} {r:ρ} {o:Oper} (ho:o.op = .slice T x lo hi mx)
  (h:Kx P call q o.op o.type e σ K=some r):∃ v,K v σ=some r∧ig P o e σ v∧Xl P o e σ v σ:=by
 rw[ho] at h
 simp only[Kx] at h
 obtain ⟨E,hE,h⟩:=Option.bind_eq_some_iff.1 h
 obtain ⟨s,hs,h⟩:=Option.bind_eq_some_iff.1 h
 obtain ⟨p,hp,h⟩:=Option.bind_eq_some_iff.1 h
 obtain ⟨lo',ha,q1⟩:=tA h
 clear h
 obtain ⟨hi',hb,q2⟩:=tA ha
 clear ha
 obtain ⟨mx',h,q3⟩:=tA hb
 clear hb
 split at h
 rotate_left
 ·cases h
 rename_i a len cap
 obtain ⟨rr,hr,h⟩:=Option.bind_eq_some_iff.1 h
 have hcl:Gm P o = .ld:=by unfold Gm; rw[ho]
 have at2:∀ σ2:Aa,(∀ b:Addr,a=some b→σ2[b.block]?=σ[b.block]?)→ig P o e σ2 (.slice rr.1 rr.2.1 rr.2.2):=fun σ2 hq=>by
  have e2:Kx P call q o.op o.type e σ2 (fun v _=>some v)=some (.slice rr.1 rr.2.1 rr.2.2):=by
   rw[ho]
   simp only[Kx,hE,hs,hp,Option.bind_some,q1,q2,q3]
   rw[Aby (σ:=σ) hq,hr]; rfl
  obtain ⟨v2,h1,h2⟩:=tN hcl e2
  cases h1
  exact h2
 refine ⟨_,h,at2 σ (fun _ _=>rfl),⟨fun T' x' h'=>by (rw[ho] at h'; cases h'),fun T' x' f' h'=>by (rw[ho] at h'; cases h'),fun T' x' f' h'=>by (rw[ho] at h'; cases h'),fun T' h'=>by (rw[ho] at h'; cases h'),fun x' h'=>by (rcases h' with h' | h' <;> (rw[ho] at h'; cases h')),fun T' x' l1 l2 l3 h'=>?_⟩⟩
 rw[ho] at h'
 cases h'
 exact ⟨a,len,cap,hp,at2⟩
theorem Agy {v:Value} {K:Value→Option ρ} {r:ρ} (h:Aa9 v K=some r):K v=some r ∧ ∀ K':Value→Option Value,Aa9 v K'=K' v:=by
 unfold Aa9 at h
 split at h
 ·obtain ⟨a,rfl,h1⟩:=Option.bind_eq_some_iff.1 h
  exact ⟨h1,fun K'=>rfl⟩
 ·exact ⟨h,fun K'=>rfl⟩
 ·exact ⟨h,fun K'=>rfl⟩
 ·cases h
theorem vK {x:Operand} {call:GM} {q:Bool} {e:Operand→Option Value} {σ:Aa} {K:Value→Aa→Option ρ} {r:ρ} {o:Oper} (ho:o.op = .move x∨o.op = .nilCheck x)
  (h:Kx P call q o.op o.type e σ K=some r):∃ v,K v σ=some r∧bC P o e v∧Xl P o e σ v σ:=by
 rcases ho with ho | ho
 ·rw[ho] at h
  simp only[Kx] at h
  obtain ⟨v,hv,hK⟩:=Option.bind_eq_some_iff.1 h
  have e2:Kx P call q o.op o.type e σ (fun v _=>some v)=some v:=by
   rw[ho]
   simp only[Kx,hv,Option.bind_some]
  obtain ⟨v2,g1,g2⟩:=Yy (by unfold Gm; rw[ho]) e2
  cases g1
  exact ⟨v,hK,g2,⟨fun T' x' h'=>(by rw[ho] at h'; cases h'),fun T' x' f' h'=>(by rw[ho] at h'; cases h'),fun T' x' f' h'=>(by rw[ho] at h'; cases h'),fun T' h'=>(by rw[ho] at h'; cases h'),fun x' h'=>(by
   rcases h' with h' | h'
   ·rw[ho] at h'; cases h'; exact hv
   ·rw[ho] at h'; cases h'),fun T' x' l1 l2 l3 h'=>by (rw[ho] at h'; cases h')⟩⟩
 ·rw[ho] at h
  simp only[Kx] at h
  obtain ⟨v,hv,hN⟩:=Option.bind_eq_some_iff.1 h
  obtain ⟨hK,hn⟩:=Agy hN
  have e2:Kx P call q o.op o.type e σ (fun v _=>some v)=some v:=by
   rw[ho]
   simp only[Kx,hv,Option.bind_some]
   exact hn _
  obtain ⟨v2,g1,g2⟩:=Yy (by unfold Gm; rw[ho]) e2
  cases g1
  exact ⟨v,hK,g2,⟨fun T' x' h'=>(by rw[ho] at h'; cases h'),fun T' x' f' h'=>(by rw[ho] at h'; cases h'),fun T' x' f' h'=>(by rw[ho] at h'; cases h'),fun T' h'=>(by rw[ho] at h'; cases h'),fun x' h'=>(by
   rcases h' with h' | h'
   ·rw[ho] at h'; cases h'
   ·rw[ho] at h'; cases h'; exact hv),fun T' x' l1 l2 l3 h'=>by (rw[ho] at h'; cases h')⟩⟩
theorem Aks {call:GM} (hcall:Xj P call) {o:Oper} {q:Bool} {e:Operand→Option Value} {σ:Aa} {K:Value→Aa→Option ρ} {r:ρ} (h:Kx P call q o.op o.type e σ K=some r):
  ∃ v σ',K v σ'=some r∧σ.length≤σ'.length ∧
   (∀ (a:Act) (μ:Mu) (w:World),R P μ σ w→Ia μ σ.length σ'.length→(∀ x u,e x=some u→RV μ u (a.eval x))→zO P o a w μ σ v σ') ∧
   (Gm P o = .pure→σ'=σ∧bC P o e v)∧(Gm P o = .ld→σ'=σ)∧(Gm P o = .al→(∀ c,o.op ≠ .call c)∨q=true→σ <+: σ')∧(isApp o=true→q=true→σ <+: σ')∧Xl P o e σ v σ':=by
 have hna:∀ {x:Cls},Gm P o=x→x ≠ .lo→isApp o=true→False:=by
  intro x hx hne ha
  unfold isApp at ha
  split at ha
  ·rename_i c ho
   split at ha
   ·rename_i hcal
    simp only[Gm,ho,hcal,q8] at hx
    exact hne hx.symm
   ·cases ha
  ·cases ha
 have nomore:∀ {c:Cls},Gm P o=c→c ≠ .ld→c ≠ .pure → ∀ {σ σ':Aa} {v:Value},(∀ T x y,o.op = .store T x y → ∃ a,e x=some (.pointer (some a)) ∧ ∀ b,b≠a.block→σ'[b]?=σ[b]?)→(∀ T,o.op = .alloc T → ∃ a,v = .pointer (some a)∧a.block=σ.length)→Xl P o e σ v σ':=by
  intro c hc h1 h2 σ σ' v h3 h4
  refine ⟨fun T x ho=>?_,fun T x f ho=>?_,h3,h4,fun x ho=>?_,fun T x lo hi mx ho=>?_⟩
  ·unfold Gm at hc; rw[ho] at hc; exact absurd hc.symm h1
  ·unfold Gm at hc; rw[ho] at hc; exact absurd hc.symm h2
  ·rcases ho with ho | ho <;> (unfold Gm at hc; rw[ho] at hc; exact absurd hc.symm h2)
  ·unfold Gm at hc; rw[ho] at hc; exact absurd hc.symm h1
 cases hc:Gm P o with
 | pure=>
   have main:∃ v,K v σ=some r∧bC P o e v∧Xl P o e σ v σ:=by
    by_cases hfa:∃ T x f,o.op = .fieldAddr T x f
    ·obtain ⟨T,x,f,ho⟩:=hfa
     exact vI ho h
    ·by_cases hmv:∃ x,o.op = .move x∨o.op = .nilCheck x
     ·obtain ⟨x,ho⟩:=hmv
      exact vK ho h
     obtain ⟨v,h1,h2⟩:=Yy hc h
     exact ⟨v,h1,h2,lR (fun T x ho=>by unfold Gm at hc; rw[ho] at hc; cases hc) (fun T x f ho=>hfa ⟨T,x,f,ho⟩) (fun T x y ho=>by unfold Gm at hc; rw[ho] at hc; cases hc) (fun T ho=>by unfold Gm at hc; rw[ho] at hc; cases hc) (fun x ho=>hmv ⟨x,ho⟩) (fun T x lo hi mx ho=>by unfold Gm at hc; rw[ho] at hc; cases hc)⟩
   obtain ⟨v,h1,h2,h3⟩:=main
   exact ⟨v,σ,h1,Nat.le_refl _,fun a μ w hR hfr he=>tM h2 hR he,fun _=>⟨rfl,h2⟩,(fun h=>by (cases h)),(fun h=>by (cases h)),fun h=>(hna hc (by decide) h).elim,h3⟩
 | ld=>
   have main:∃ v,K v σ=some r∧ig P o e σ v∧Xl P o e σ v σ:=by
    by_cases hl:∃ T x,o.op = .load T x
    ·obtain ⟨T,x,ho⟩:=hl
     rw[ho] at h
     exact qN ho h
    ·by_cases hs:∃ T x lo hi mx,o.op = .slice T x lo hi mx
     ·obtain ⟨T,x,lo,hi,mx,ho⟩:=hs
      exact vL ho h
     obtain ⟨v,h1,h2⟩:=tN hc h
     exact ⟨v,h1,h2,lR (fun T x ho=>hl ⟨T,x,ho⟩) (fun T x f ho=>by unfold Gm at hc; rw[ho] at hc; cases hc) (fun T x y ho=>by unfold Gm at hc; rw[ho] at hc; cases hc) (fun T ho=>by unfold Gm at hc; rw[ho] at hc; cases hc) (fun x ho=>by rcases ho with ho | ho <;> (unfold Gm at hc; rw[ho] at hc; cases hc)) (fun T x lo hi mx ho=>hs ⟨T,x,lo,hi,mx,ho⟩)⟩
   obtain ⟨v,h1,h2,h3⟩:=main
   exact ⟨v,σ,h1,Nat.le_refl _,fun a μ w hR hfr he=>xV h2 hR he,(fun h=>by (cases h)),fun _=>rfl,(fun h=>by (cases h)),fun h=>(hna hc (by decide) h).elim,h3⟩
 | al=>
   have hc0:=hc
   by_cases hnc:∀ c,o.op ≠ .call c
   ·obtain ⟨v,x,h1,h2,h3⟩:=Ag0 hc hnc h
    exact ⟨v,σ++[x],h1,by simp,fun a μ w hR hfr he=>WO (h2 μ w a.eval hR hfr he),fun h=>by (cases h),fun h=>by (cases h),fun _ _=>⟨[x],rfl⟩,fun h=>(hna hc (by decide) h).elim,nomore hc (by decide) (by decide) (fun T x y ho=>by unfold Gm at hc; rw[ho] at hc; cases hc) h3⟩
   ·have:∃ c,o.op = .call c:=by
     apply Classical.byContradiction
     intro hq
     exact hnc fun c hc=>hq ⟨c,hc⟩
    obtain ⟨c,ho⟩:=this
    cases hcal:c.callee with
    | builtin b=>
      simp only[Gm,ho,hcal] at hc
      cases b <;> cases hm:c8 P c.argTypes.toList <;> simp[hm,q8] at hc
    | invoke r m=>rw[ho] at h; simp only[Kx,hcal] at h; cases h
    | value fo=>
      rw[ho] at h
      obtain ⟨v,σ',h1,h2,h3,h4⟩:=Ael hcall ho hcal h
      refine ⟨v,σ',h1,h2,h4,fun h=>by (cases h),fun h=>by (cases h),fun _ hq=>?_,fun h=>(hna hc0 (by decide) h).elim,nomore hc0 (by decide) (by decide) (fun T x y h'=>by (rw[ho] at h'; cases h')) (fun T h'=>by (rw[ho] at h'; cases h'))⟩
      rcases hq with hq | hq
      ·exact absurd ho (hq c)
      ·exact h3 hq
 | lo=>
   have main:∃ v σ',K v σ'=some r∧σ.length≤σ'.length∧zL P o e σ v σ'∧(isApp o=true→q=true→σ <+: σ')∧(∀ T x y,o.op = .store T x y → ∃ a,e x=some (.pointer (some a)) ∧ ∀ b,b≠a.block→σ'[b]?=σ[b]?):=by
    have nap:∀ {x:Op},o.op=x→(∀ c,x ≠ .call c)→isApp o=true→False:=by
     intro x hx hc ha
     unfold isApp at ha
     split at ha
     ·rename_i c ho
      exact hc c (hx.symm.trans ho)
     ·cases ha
    cases ho:o.op
    case store=>
     rw[ho] at h
     obtain ⟨v,σ',a1,a2,a3,a4⟩:=Abi ho h
     exact ⟨v,σ',a1,a2,a3,fun ha=>(nap ho (by intro c hc; cases hc) ha).elim,fun T x y h'=>by cases h'; exact a4⟩
    case mapUpdate=>
     rw[ho] at h
     obtain ⟨v,σ',a1,a2,a3⟩:=qO ho h
     exact ⟨v,σ',a1,a2,a3,fun ha=>(nap ho (by intro c hc; cases hc) ha).elim,fun T x y h'=>by cases h'⟩
    case call c=>
     rw[ho] at h
     simp only[Gm,ho] at hc
     split at hc
     ·rename_i b hb
      by_cases hba:b = .append
      ·subst hba
       obtain ⟨v,σ',a1,a2,a3,a4⟩:=xX ho hb h
       exact ⟨v,σ',a1,a2,a3,fun _=>a4,fun T x y h'=>by cases h'⟩
      ·obtain ⟨v,σ',a1,a2,a3⟩:=pf ho hb hba hc h
       exact ⟨v,σ',a1,a2,a3,fun ha=>absurd (Aiz ho hb ha) hba,fun T x y h'=>by cases h'⟩
     ·cases hc
    all_goals (simp[Gm,ho] at hc)
   obtain ⟨v,σ',h1,h2,h3,h4,h5⟩:=main
   exact ⟨v,σ',h1,h2,fun a μ w hR hfr he=>WO (h3 μ w a.eval hR hfr he),fun h=>by (cases h),fun h=>by (cases h),fun h=>by (cases h),h4,nomore hc (by decide) (by decide) h5 (fun T ho=>by unfold Gm at hc; rw[ho] at hc; cases hc)⟩
end Go.AX
end
section
namespace Go.AX
open Go
variable {ρ:Type} {P:Program} [A9]
def Nx (E regs:AZ):Prop:=∀ (t:Nat) (v:Value),regs.getD t none=some v→E.getD t none=some v
theorem Nx.refl (E:AZ):Nx E E:=fun _ _ h=>h
theorem Nx.trans {a b c:AZ} (h:Nx a b) (g:Nx b c):Nx a c:=fun t v e=>h t v (g t v e)
theorem Lr (regs:AZ) (d t:Nat) (v:Option Value):(regs.set d v).getD t none=if d=t∧d<regs.length then v else regs.getD t none:=by
 simp only[List.getD_eq_getElem?_getD,List.getElem?_set]
 by_cases h:d=t
 ·subst h
  by_cases h2:d<regs.length
  ·simp[h2]
  ·simp[h2]
 ·simp[h]
theorem Nx.put {E regs:AZ} (h:Nx E regs) (hl:regs.length=E.length) (d:Option Nat) (v:Option Value):Nx (M7 E d v) (M7 regs d v):=by
 cases d with
 | none=>exact h
 | some d=>
   intro t u
   simp only[M7,Lr]
   by_cases hc:d=t∧d<regs.length
   ·rw[if_pos hc,if_pos (by rw[← hl]; exact hc)]; exact id
   ·rw[if_neg hc,if_neg (by rw[← hl]; exact hc)]; exact h t u
theorem EX (regs:AZ) (d:Option Nat) (v:Option Value):(M7 regs d v).length=regs.length:=by
 cases d <;> simp[M7]
theorem Adt {E regs:AZ} (h:Nx E regs) {x:Operand} {u:Value} (hx:tB regs x=some u):tB E x=some u:=by
 cases x with
 | tmp t=>exact h t u hx
 | const v=>exact hx
 | global g=>exact hx
 | func f=>exact hx
theorem gK {all:List Oper} {E regs:AZ} (h:Nx E regs) {j:Nat} {u:Value} (hx:Uo all regs j=some u):Uo all E j=some u:=by
 unfold Uo at hx ⊢
 split at hx
 ·exact h _ u hx
 ·cases hx
theorem Ym {e e':Operand→Option Value}:∀ {xs:List Operand} {K:List Value→Option ρ},(∀ x ∈ xs,e x=e' x)→evs e xs K=evs e' xs K
 | [],K,_=>rfl
 | x::xs,K,h=>by
   simp only[evs]
   rw[h x (by simp)]
   congr 1; funext v
   exact Ym fun y hy=>h y (by simp[hy])
theorem kn {e e':Operand→Option Value}:∀ {xs:List (Nat × Operand)} {K:List (Nat × Value)→Option ρ},(∀ p ∈ xs,e p.2=e' p.2)→evp e xs K=evp e' xs K
 | [],K,_=>rfl
 | (i,x)::xs,K,h=>by
   simp only[evp]
   rw[h (i,x) (by simp)]
   congr 1; funext v
   exact kn fun y hy=>h y (by simp[hy])
theorem km {e e':Operand→Option Value} {x:Option Operand} {K:Option Value→Option ρ} (h:∀ y,x=some y→e y=e' y):evo e x K=evo e' x K:=by
 cases x with
 | none=>rfl
 | some y=>simp only[evo]; rw[h y rfl]
theorem Abf {call:GM} {q:Bool} {op:Op} {ty:TypeId} {e e':Operand→Option Value} {σ:Aa} {K:Value→Aa→Option ρ} (h:∀ x ∈ op.operands,e x=e' x):Kx P call q op ty e σ K=Kx P call q op ty e' σ K:=by
 cases op <;> simp only[Op.operands] at h <;> simp only[Kx]
 case build t ps=>congr 1; funext z; exact kn fun p hp=>h p.2 (by simpa using ⟨p.1,by simpa using hp⟩)
 case buildSlice t n ps=>congr 1; funext E; congr 1; congr 1; funext z; exact kn fun p hp=>h p.2 (by simpa using ⟨p.1,by simpa using hp⟩)
 case makeFunc fn first captured=>
  split
  ·rfl
  rw[Ym (xs:=first.toList) fun x hx=>h x (by simp at hx; simp[hx])]
  congr 1; funext vs
  exact Ym fun x hx=>h x (by simp at hx; simp[hx])
 case call c=>
  cases hc:c.callee with
  | builtin b=>simp only; exact Ym fun x hx=>h x (by simp at hx; simp[Call.operands,hx])
  | invoke r m=>rfl
  | value f=>
    simp only
    rw[h f (by simp[Call.operands,hc])]
    congr 1; funext fv
    exact Ym fun x hx=>h x (by simp at hx; simp[Call.operands,hx])
 case slice t x lo hi mx=>
  congr 1; funext E; congr 1; funext s
  rw[h x (by simp)]
  congr 1; funext v
  rw[km fun y hy=>h y (by simp[hy])]
  congr 1; funext lo'
  rw[km fun y hy=>h y (by simp[hy])]
  congr 1; funext hi'
  rw[km fun y hy=>h y (by simp[hy])]
 case makeMap t r=>cases r <;> rfl
 all_goals (first | rfl | (simp_all; done))
open Classical in
noncomputable def fH (o:Oper) (e:Operand→Option Value):Operand→Option Value:=fun x=>if x ∈ o.op.operands then e x else none
theorem M9 {o:Oper} {e:Operand→Option Value} {x:Operand} {u:Value} (h:fH o e x=some u):x ∈ o.op.operands∧e x=some u:=by
 unfold fH at h
 split at h
 ·exact ⟨‹_›,h⟩
 ·cases h
theorem Abg {call:GM} {q:Bool} {o:Oper} {ty:TypeId} {e:Operand→Option Value} {σ:Aa} {K:Value→Aa→Option ρ}:Kx P call q o.op ty e σ K=Kx P call q o.op ty (fH o e) σ K:=
 Abf fun x hx=>by unfold fH; rw[if_pos hx]
structure mV (P:Program) (o:Oper) (q:Bool) (e:Operand→Option Value) (σ:Aa) (v:Value) (σ':Aa):Prop where
 len:σ.length≤σ'.length
 wp:∀ (a:Act) (μ:Mu) (w:World),R P μ σ w→Ia μ σ.length σ'.length→(∀ x u,e x=some u→RV μ u (a.eval x))→zO P o a w μ σ v σ'
 pure:Gm P o = .pure→σ'=σ∧bC P o e v
 ld:Gm P o = .ld→σ'=σ
 al:Gm P o = .al→(∀ c,o.op ≠ .call c)∨q=true→σ <+: σ'
 app:isApp o=true→q=true→σ <+: σ'
 more:Xl P o e σ v σ'
def yes (all:List Oper) (o:Oper) (regs:AZ):Prop:=
 match o.guard with
 | none=>True
 | some (j,want)=>Uo all regs j=some (.bool want)
def no (all:List Oper) (o:Oper) (regs:AZ):Prop:=
 ∃ j want,o.guard=some (j,want)∧((∃ b,Uo all regs j=some (.bool b)∧b≠want)∨Uo all regs j=some undef)
inductive Tr (P:Program) (qf:Nat→QF) (all:List Oper):List (Nat × Oper)→AZ→Aa→AZ→Aa→Prop
 | nil {E:AZ} {σ:Aa}:Tr P qf all [] E σ E σ
 | step {i:Nat} {o:Oper} {rest:List (Nat × Oper)} {E regs E':AZ} {σ σ1 σ':Aa} {v:Value} (hw:Nx E regs) (hy:yes all o regs) (hf:mV P o (qf i).1 (fH o (tB regs)) σ v σ1) (hk:Kept (qf i).2 E σ σ1)
   (ht:Tr P qf all rest (M7 E o.dst (some v)) σ1 E' σ'):Tr P qf all ((i,o)::rest) E σ E' σ'
 | skip {i:Nat} {o:Oper} {rest:List (Nat × Oper)} {E regs E':AZ} {σ σ':Aa} (hw:Nx E regs) (hn:no all o regs) (ht:Tr P qf all rest (M7 E o.dst (some undef)) σ E' σ'):Tr P qf all ((i,o)::rest) E σ E' σ'
theorem Tr.append {qf:Nat→QF} {all:List Oper} {a b:List (Nat × Oper)} {E E1 E2:AZ} {σ σ1 σ2:Aa} (h:Tr P qf all a E σ E1 σ1) (g:Tr P qf all b E1 σ1 E2 σ2):Tr P qf all (a++b) E σ E2 σ2:=by
 induction h with
 | nil=>exact g
 | step hw hy hf hk ht ih=>exact .step hw hy hf hk (ih g)
 | skip hw hn ht ih=>exact .skip hw hn (ih g)
theorem Tr.len {qf:Nat→QF} {all:List Oper} {a:List (Nat × Oper)} {E E1:AZ} {σ σ1:Aa} (h:Tr P qf all a E σ E1 σ1):σ.length≤σ1.length∧E1.length=E.length:=by
 induction h with
 | nil=>exact ⟨Nat.le_refl _,rfl⟩
 | step hw hy hf hk ht ih=>exact ⟨Nat.le_trans hf.len ih.1,by rw[ih.2,EX]⟩
 | skip hw hn ht ih=>exact ⟨ih.1,by rw[ih.2,EX]⟩
theorem OB {regs:AZ} {d:Option Nat} {v:Option Value} {t:Nat} (h:d≠some t):(M7 regs d v).getD t none=regs.getD t none:=by
 cases d with
 | none=>rfl
 | some d=>
   simp only[M7,Lr]
   rw[if_neg]
   rintro ⟨rfl,_⟩; exact h rfl
theorem Tr.other {qf:Nat→QF} {all:List Oper} {a:List (Nat × Oper)} {E E1:AZ} {σ σ1:Aa} (h:Tr P qf all a E σ E1 σ1) {t:Nat} (ht:∀ io ∈ a,io.2.dst≠some t):E1.getD t none=E.getD t none:=by
 induction h with
 | nil=>rfl
 | @step i o rest E regs E' σ σ1 σ' v hw hy hf _ _ ih=>exact (ih fun io hio=>ht io (by simp[hio])).trans (OB (ht (i,o) (by simp)))
 | @skip i o rest E regs E' σ σ' hw hn _ ih=>exact (ih fun io hio=>ht io (by simp[hio])).trans (OB (ht (i,o) (by simp)))
theorem iO {t:Nat} {v:Value}:∀ {ops:List (Nat × Oper)} {regs:AZ},(SA regs ops).getD t none=some v→regs.getD t none=some v ∧ ∀ io ∈ ops,io.2.dst=some t→¬ t<regs.length
 | [],regs,h=>⟨h,by simp⟩
 | io::rest,regs,h=>by
   simp only[SA] at h
   obtain ⟨h1,h2⟩:=iO h
   by_cases hd:io.2.dst=some t
   ·rw[hd] at h1
    simp only[M7,Lr] at h1
    by_cases hl:t<regs.length
    ·simp[hl] at h1
    ·rw[if_neg (by simp[hl])] at h1
     refine ⟨h1,fun io' hio' hd'=>?_⟩
     exact hl
   ·rw[OB hd] at h1
    refine ⟨h1,fun io' hio' hd'=>?_⟩
    rcases List.mem_cons.1 hio' with rfl | hio'
    ·exact absurd hd' hd
    ·have:=h2 io' hio' hd'; rwa [EX] at this
theorem pP {qf:Nat→QF} {all:List Oper}:∀ {ops:List (Nat × Oper)} {regs regs' E:AZ} (σ:Aa),ZQ all ops regs=some regs'→Nx E regs→regs.length=E.length → ∃ E',Tr P qf all ops E σ E' σ∧Nx E' regs'∧regs'.length=E'.length
 | [],regs,regs',E,σ,h,hw,hl=>by
   simp[ZQ] at h; subst h; exact ⟨E,.nil,hw,hl⟩
 | io::rest,regs,regs',E,σ,h,hw,hl=>by
   simp only[ZQ] at h
   split at h
   ·cases h
   ·rename_i j want hg
    have done:no all io.2 regs→ZQ all rest (M7 regs io.2.dst (some undef))=some regs' → ∃ E',Tr P qf all (io::rest) E σ E' σ∧Nx E' regs'∧regs'.length=E'.length:=by
     intro hn h
     obtain ⟨E',h1,h2,h3⟩:=pP σ h (hw.put hl _ _) (by rw[EX,EX]; exact hl)
     exact ⟨E',.skip hw hn h1,h2,h3⟩
    split at h
    ·rename_i b hr
     cases hbw:(b == want) with
     | true=>rw[hbw] at h; cases h
     | false=>
       rw[hbw] at h
       exact done ⟨j,want,hg,.inl ⟨b,hr,by simpa using hbw⟩⟩ h
    ·rename_i vs hr
     cases he:vs.toList.isEmpty with
     | false=>rw[he] at h; cases h
     | true=>
       rw[he] at h
       refine done ⟨j,want,hg,.inr ?_⟩ h
       have:vs = #[]:=by
        cases vs with
        | mk l=>cases l <;> simp_all
       rw[hr,this]; rfl
    ·cases h
theorem wJ {all:List Oper} {E regs:AZ} {j:Nat} {b:Bool} (hw:Nx E regs) (h:Uo all regs j=some (.bool b)):Nx E (M7 regs (Yk all j) (some (.bool b))):=by
 unfold Uo at h
 split at h
 ·rename_i d hd
  rw[hd]
  intro t v
  simp only[M7,Lr]
  split
  ·rename_i hc
   intro hv
   rw[← hc.1]
   rw[← hv]
   exact hw _ _ h
  ·exact hw t v
 ·cases h
theorem Y6 {call:GM} (hcall:Xj P call) {qf:Nat→QF} {all:List Oper}:∀ (fuel:Nat) {ρ:Type} {known:List (Nat × Bool)} {ops:List (Nat × Oper)} {regs E:AZ} {σ:Aa} {K:AZ→Aa→Option ρ} {r:ρ},
  ND P call qf all fuel ρ known ops regs σ K=some r→Nx E regs→regs.length=E.length → ∃ regs' E' σ',Tr P qf all ops E σ E' σ'∧Nx E' regs'∧regs'.length=E'.length∧K regs' σ'=some r
 | 0,ρ,known,ops,regs,E,σ,K,r,h,hw,hl=>by simp[ND] at h
 | fuel+1,ρ,known,ops,regs,E,σ,K,r,h,hw,hl=>by
   cases ops with
   | nil=>simp only[ND] at h; exact ⟨regs,E,σ,.nil,hw,hl,h⟩
   | cons io rest=>
     have one:yes all io.2 regs→(Kx P call (qf io.1).1 io.2.op io.2.type (tB regs) σ fun v σ'=>c9 (qf io.1).2 regs σ σ' (ND P call qf all fuel ρ known rest (M7 regs io.2.dst (some v)) σ' K))=some r →
       ∃ regs' E' σ',Tr P qf all (io::rest) E σ E' σ'∧Nx E' regs'∧regs'.length=E'.length∧K regs' σ'=some r:=by
      intro hy h
      rw[Abg] at h
      obtain ⟨v,σ1,h1,h2,h3,h4,h5,h6⟩:=Aks hcall h
      obtain ⟨h1,hk⟩:=WK h1
      obtain ⟨regs',E',σ',g1,g2,g3,g4⟩:=Y6 hcall fuel h1 (hw.put hl _ _) (by rw[EX,EX]; exact hl)
      exact ⟨regs',E',σ',.step hw hy ⟨h2,h3,h4,h5,h6.1,h6.2.1,h6.2.2⟩ (fun t ht=>Or.imp (fun ⟨a,ha⟩=>⟨a,hw t _ ha.1,ha.2⟩) (fun ⟨a,l,c,ha⟩=>⟨a,l,c,hw t _ ha.1,ha.2⟩) (hk t ht)) g1,g2,g3,g4⟩
     simp only[ND] at h
     split at h
     ·rename_i hg
      exact one (by unfold yes; rw[hg]; trivial) h
     ·rename_i j want hg
      cases hk:known.contains (j,want) with
      | true=>
        rw[hk] at h
        simp only[cond_true] at h
        split at h
        ·rename_i b hr
         cases hbw:(b == want) with
         | false=>rw[hbw] at h; cases h
         | true=>
           rw[hbw] at h
           have:b=want:=by simpa using hbw
           subst this
           exact one (by unfold yes; rw[hg]; exact hr) h
        ·cases h
      | false=>
        rw[hk] at h
        simp only[cond_false] at h
        split at h
        ·cases h
        ·rename_i body p after hsp
         have hrest:=ZU hsp
         simp only at hrest
         split at h
         ·rename_i b hr
          simp only[Option.bind_eq_some_iff] at h
          obtain ⟨⟨rb,σ1⟩,h1,h2⟩:=h
          rw[Ae5] at h1
          have grp:∃ regs1 E1,Tr P qf all (io::(body++[p])) E σ E1 σ1∧Nx E1 regs1∧(p.2.dst.bind fun d=>regs1.getD d none)=some (.bool rb):=by
           have fin:∀ (regs':AZ) (σ':Aa),(((p.2.dst.bind fun d=>regs'.getD d none).bind Ez).bind fun r=>some (r,σ'))=some (rb,σ1)→(p.2.dst.bind fun d=>regs'.getD d none)=some (.bool rb)∧σ'=σ1:=by
            intro regs' σ' hq
            rw[Option.bind_eq_some_iff] at hq
            obtain ⟨x,hx,hxx⟩:=hq
            rw[Option.bind_eq_some_iff] at hx
            obtain ⟨y,hy,hyy⟩:=hx
            cases hxx
            refine ⟨?_,rfl⟩
            rw[hy]
            cases y <;> simp[Ez] at hyy
            rw[hyy]
           cases hbw:(b == want) with
           | true=>
             rw[hbw] at h1
             simp only[cond_true] at h1
             have:b=want:=by simpa using hbw
             subst this
             obtain ⟨regs',E',σ',g1,g2,g3,g4⟩:=Y6 hcall fuel h1 (wJ hw hr) (by rw[EX]; exact hl)
             obtain ⟨k1,rfl⟩:=fin _ _ g4
             exact ⟨regs',E',g1,g2,k1⟩
           | false=>
             rw[hbw] at h1
             simp only[cond_false,Option.bind_eq_some_iff] at h1
             obtain ⟨regs2,hs,h1⟩:=h1
             have:b = !want:=by
              have:b≠want:=by simpa using hbw
              cases b <;> cases want <;> simp_all
             subst this
             obtain ⟨E2,s1,s2,s3⟩:=pP (P:=P) (qf:=qf) σ hs (wJ hw hr) (by rw[EX]; exact hl)
             obtain ⟨regs',E',σ',g1,g2,g3,g4⟩:=Y6 hcall fuel h1 s2 s3
             obtain ⟨k1,rfl⟩:=fin _ _ g4
             exact ⟨regs',E',s1.append g1,g2,k1⟩
          obtain ⟨regs1,E1,t1,t2,t3⟩:=grp
          have hE1:=t1.len.2
          have hw2:Nx E1 (M7 (SA regs (io::body)) p.2.dst (some (.bool rb))):=by
           cases hpd:p.2.dst with
           | none=>rw[hpd] at t3; cases t3
           | some pd=>
             rw[hpd] at t3
             simp only[Option.bind_some] at t3
             intro t v
             simp only[M7,Lr]
             split
             ·rename_i hc
              intro hv; cases hv
              rw[← hc.1]; exact t2 _ _ t3
             ·rename_i hc
              intro hv
              obtain ⟨m1,m2⟩:=iO hv
              have htl:t<regs.length:=by
               rcases Nat.lt_or_ge t regs.length with h | h
               ·exact h
               ·rw[List.getD_eq_getElem?_getD,List.getElem?_eq_none h] at m1; cases m1
              rw[t1.other]
              ·exact hw _ _ m1
              ·intro io' hio' hd
               rcases List.mem_cons.1 hio' with rfl | hio'
               ·exact m2 io' (by simp) hd htl
               ·rcases List.mem_append.1 hio' with hio' | hio'
                ·exact m2 io' (by simp[hio']) hd htl
                ·simp at hio'; subst hio'
                 rw[hpd] at hd; cases hd
                 apply hc
                 refine ⟨rfl, ?_⟩
                 have:∀ (l:List (Nat × Oper)) (r:AZ),(SA r l).length=r.length:=by
                  intro l
                  induction l with
                  | nil=>intro r; rfl
                  | cons a l ih=>intro r; simp only[SA]; rw[ih,EX]
                 rw[this]; exact htl
          have hlen2:(M7 (SA regs (io::body)) p.2.dst (some (.bool rb))).length=E1.length:=by
           have:∀ (l:List (Nat × Oper)) (r:AZ),(SA r l).length=r.length:=by
            intro l
            induction l with
            | nil=>intro r; rfl
            | cons a l ih=>intro r; simp only[SA]; rw[ih,EX]
           rw[EX,this,hE1]; exact hl
          obtain ⟨regs',E',σ',g1,g2,g3,g4⟩:=Y6 hcall fuel h2 hw2 hlen2
          refine ⟨regs',E',σ', ?_,g2,g3,g4⟩
          rw[hrest]
          have:=t1.append g1
          simpa using this
         ·cases h
end Go.AX
end
section
namespace Go.AX
open Go
variable {ρ:Type} {P:Program} [A9]
theorem OJ.Afj {μ:Mu} {E regs:AZ} {tmps:Array Value} (h:OJ μ E tmps) (hw:Nx E regs) (hl:regs.length≤E.length):OJ μ regs tmps:=
 ⟨Nat.le_trans hl h.1,fun t v ht=>h.2 t v (hw t v ht)⟩
theorem je (a:Act) (d:Option Tmp) (v:Value):(a.put d v).tmps.size=a.tmps.size:=by
 cases d <;> simp[Act.put]
theorem SC {a:Act} {d:Option Tmp} {v:Value} {t:Nat} (h:d≠some t):(a.put d v).tmps[t]?=a.tmps[t]?:=by
 cases d with
 | none=>rfl
 | some d=>
   simp only[Act.put,Array.getElem?_setIfInBounds]
   rw[if_neg (by rintro rfl; exact h rfl)]
theorem OJ.put {μ:Mu} {regs:AZ} {a:Act} (h:OJ μ regs a.tmps) (d:Option Nat) {v v':Value} (hv:RV μ v v'):OJ μ (M7 regs d (some v)) (a.put d v').tmps:=by
 refine ⟨by rw[EX,je]; exact h.1,fun t u ht=>?_⟩
 cases d with
 | none=>exact h.2 t u ht
 | some d=>
   simp only[M7,Lr] at ht
   simp only[Act.put,Array.getElem?_setIfInBounds]
   split at ht
   ·rename_i hc
    cases ht
    have hlt:d<a.tmps.size:=Nat.lt_of_lt_of_le hc.2 h.1
    rw[if_pos hc.1,if_pos hlt]
    exact ⟨v',rfl,hv⟩
   ·rename_i hc
    obtain ⟨w,hw1,hw2⟩:=h.2 t u ht
    by_cases hdt:d=t
    ·subst hdt
     have:d<regs.length:=by
      rcases Nat.lt_or_ge d regs.length with h | h
      ·exact h
      ·rw[List.getD_eq_getElem?_getD,List.getElem?_eq_none h] at ht; cases ht
     exact absurd ⟨rfl,this⟩ hc
    ·rw[if_neg hdt]; exact ⟨w,hw1,hw2⟩
theorem OJ.ev {μ:Mu} {regs:AZ} {a:Act} (h:OJ μ regs a.tmps):∀ x u,tB regs x=some u→RV μ u (a.eval x):=by
 intro x u hx
 cases x with
 | tmp t=>
   obtain ⟨v',h1,h2⟩:=h.2 t u hx
   simp only[Act.eval,Array.getD_eq_getD_getElem?,h1,Option.getD_some]
   exact h2
 | const v=>
   simp only[tB] at hx
   split at hx
   ·cases hx; exact .JU ‹_›
   ·cases hx
 | global g=>cases hx
 | func f=>
   cases hx
   exact .func (fun l hl=>by cases hl) .nil .nil
theorem yy {μ:Mu} {all:Array Oper} {o:Oper} {regs:AZ} {tmps:Array Value} (h:yes all.toList o regs) (hr:OJ μ regs tmps):Region.wanted o (yielded all tmps)=true:=by
 unfold yes at h
 unfold Region.wanted
 split at h
 ·rename_i hg; rw[hg]
 ·rename_i j want hg
  rw[hg]
  unfold Uo at h
  split at h
  ·rename_i d hd
   obtain ⟨v',h1,h2⟩:=hr.2 _ _ h
   cases h2
   unfold Yk at hd
   simp only[Array.getElem?_toList] at hd
   simp only[yielded,hd,Option.bind_some,h1]
   simp
  ·cases h
theorem Aba {μ:Mu} {all:Array Oper} {o:Oper} {regs:AZ} {tmps:Array Value} (h:no all.toList o regs) (hr:OJ μ regs tmps):Region.wanted o (yielded all tmps)=false:=by
 obtain ⟨j,want,hg,h⟩:=h
 unfold Region.wanted
 rw[hg]
 rcases h with ⟨b,h,hb⟩ | h
 ·unfold Uo at h
  split at h
  ·rename_i d hd
   obtain ⟨v',h1,h2⟩:=hr.2 _ _ h
   cases h2
   unfold Yk at hd
   simp only[Array.getElem?_toList] at hd
   simp only[yielded,hd,Option.bind_some,h1]
   simpa using hb
  ·cases h
 ·unfold Uo at h
  split at h
  ·rename_i d hd
   obtain ⟨v',h1,h2⟩:=hr.2 _ _ h
   unfold undef at h2
   cases h2
   unfold Yk at hd
   simp only[Array.getElem?_toList] at hd
   simp only[yielded,hd,Option.bind_some,h1]
   rfl
  ·cases h
theorem Akw {ro:Option Nat} {nn:Nat} {qf:Nat→QF} {all:Array Oper} {Q:Exit→Act→World→Prop} {hi:Nat}:∀ {ops:List (Nat × Oper)} {E E':AZ} {σ σ':Aa},Tr P qf all.toList ops E σ E' σ'→(∀ io ∈ ops,all[io.1]?=some io.2)→σ'.length≤hi →
  ∀ (a:Act) (μ:Mu) (w:World),R P μ σ w→Ia μ σ.length hi→OJ μ E a.tmps →
   (∀ (a':Act) (μ':Mu) (w':World),R P μ' σ' w'→Step μ σ w μ' σ' w'→OJ μ' E' a'.tmps→a'.defers=a.defers→a'.tmps.size=a.tmps.size→(∀ t,(∀ io ∈ ops,io.2.dst≠some t)→a'.tmps[t]?=a.tmps[t]?)→Q .normal a' w') →
   wpOpsIn (FW ro) nn P all Q (ops.map (·.1)) a w:=by
 intro ops E E' σ σ' h
 induction h with
 | nil=>
   intro _ hi' a μ w hR hfr hreg hQ
   exact hQ a μ w hR (Step.refl _ _ _) hreg rfl rfl fun _ _=>rfl
 | @step i o rest E regs E' σ σ1 σ' v hw hy hf hk ht ih=>
   intro hall hi' a μ w hR hfr hreg hQ
   have ho:all[i]?=some o:=hall (i,o) (by simp)
   have hlen:=ht.len.1
   simp only[List.map_cons,wpOpsIn,ho]
   rw[if_pos (yy (regs:=E) (by
    unfold yes at hy ⊢
    split at hy
    ·trivial
    ·exact gK hw hy) hreg)]
   refine hf.wp a μ w hR (hfr.sub (Nat.le_refl _) (by omega)) (fun x u hx=>hreg.ev x u (Adt hw (M9 hx).2)) _ _ _ _ ?_
   intro μ1 v1 w1 hv hR1 hS1
   have hle:=hS1.le (hfr.sub (Nat.le_refl _) (by omega))
   refine ih (fun io hio=>hall io (by simp[hio])) hi' (a.put o.dst v1) μ1 w1 hR1 (hfr.step hS1) ((hreg.mono hle).put _ hv) ?_
   intro a' μ' w' hR' hS' hreg' hd hsz hoth
   refine hQ a' μ' w' hR' (hS1.trans hS') hreg' (by rw[hd]; cases o.dst <;> rfl) (by rw[hsz,je]) ?_
   intro t ht'
   rw[hoth t fun io hio=>ht' io (by simp[hio]),SC (ht' (i,o) (by simp))]
 | @skip i o rest E regs E' σ σ' hw hn ht ih=>
   intro hall hi' a μ w hR hfr hreg hQ
   have ho:all[i]?=some o:=hall (i,o) (by simp)
   simp only[List.map_cons,wpOpsIn,ho]
   have hn':no all.toList o E:=by
    obtain ⟨j,want,hg,h⟩:=hn
    refine ⟨j,want,hg, ?_⟩
    rcases h with ⟨b,h,hb⟩ | h
    ·exact .inl ⟨b,gK hw h,hb⟩
    ·exact .inr (gK hw h)
   rw[Aba hn' hreg]
   simp only[Bool.false_eq_true,if_false]
   refine ⟨fun _ _=>trivial, ?_⟩
   refine ih (fun io hio=>hall io (by simp[hio])) hi' (a.put o.dst undef) μ w hR hfr (hreg.put _ Y8) ?_
   intro a' μ' w' hR' hS' hreg' hd hsz hoth
   refine hQ a' μ' w' hR' hS' hreg' (by rw[hd]; cases o.dst <;> rfl) (by rw[hsz,je]) ?_
   intro t ht'
   rw[hoth t fun io hio=>ht' io (by simp[hio]),SC (ht' (i,o) (by simp))]
end Go.AX
end
