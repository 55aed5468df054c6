/-
  Every operation: what it comes to in a walk.
-/
import Derived.Test.YtilefhlamdiomaaGreatAXS
import Derived.Test.YtilefhlamdiomaaGreatAXV
set_option linter.unusedSimpArgs false
set_option linter.unusedVariables false
set_option linter.unusedSectionVars false
namespace Go.AX
open Go
variable {ρ : Type} {P : Program} [Quiet]

/-- What a call comes to. -/
def Post (P : Program) (μ : Mu) (σ : AMem) (w : World) (v : Value) (σ' : AMem) (e : Ending) (w' : World) : Prop :=
  ∃ μ' v', e = .returned v' ∧ RV μ' v v' ∧ R P μ' σ' w' ∧ Step μ σ w μ' σ' w'

/-- What a call of yield comes to. -/
def YieldOk (P : Program) (args : List Value) (σ : AMem) (v : Value) (σ' : AMem) : Prop :=
  ∃ a vs, args = .pointer (some a) :: vs ∧ ∀ (μ : Mu) (w : World) (k : Blk) (cargs : Array Value), R P μ σ w → Fresh μ σ.length σ'.length → μ a.block = some k → RVs μ vs cargs.toList →
    ∃ fn tmps asg body, (Instr.yield k.b cargs).run P w = .ok (.round k.b fn tmps asg body) w ∧ ∀ ro nn, RoundIn (FW ro) nn P k.b fn tmps asg body w (Post P μ σ w v σ')

structure CallOk (P : Program) (call : CallF) : Prop where
  fn : ∀ f args σ v σ', f ≠ YF → call f args σ = some (v, σ') → σ.length ≤ σ'.length ∧ (calmF P f = true → σ <+: σ') ∧ (∃ F, P.funcs[f]? = some F ∧ F.body.isSome = true ∧ (F.name == "runtime.NumGoroutine") = false) ∧
    ∀ (μ : Mu) (w : World) (cargs : Array Value), R P μ σ w → Fresh μ σ.length σ'.length → RVs μ args cargs.toList → Calls P f cargs w (Post P μ σ w v σ')
  yld : ∀ args σ v σ', call YF args σ = some (v, σ') → σ.length ≤ σ'.length ∧ YieldOk P args σ v σ'

/-- An operation, in a walk. -/
def OpWp (P : Program) (o : Oper) (a : Act) (w : World) (μ : Mu) (σ : AMem) (v : Value) (σ' : AMem) : Prop :=
  ∀ (ro : Option Nat) (nn : Nat) (next : Act → World → Prop) (Q : Exit → Act → World → Prop), (∀ μ' v' w', RV μ' v v' → R P μ' σ' w' → Step μ σ w μ' σ' w' → next (a.put o.dst v') w') → o.wpIn (FW ro) nn P a w next Q

theorem opWp_of_mem {o : Oper} {a : Act} {w : World} {μ : Mu} {σ σ' : AMem} {v : Value} (h : MemOk P μ σ w v σ' ((execOp a.eval o).run P w)) : OpWp P o a w μ σ v σ' := by
  intro ro nn next Q hn
  obtain ⟨μ', v', w', hres, h1, h2, h3⟩ := h
  rcases hres with hres | ⟨hres, rfl⟩
  · refine wpIn_of_wp (notDefer hres (by intro d hd; cases hd)) ?_
    unfold Oper.wp
    rw [hres, Oper.upon_value]; exact hn μ' v' w' h1 h2 h3
  · refine wpIn_of_wp (notDefer hres (by intro d hd; cases hd)) ?_
    unfold Oper.wp
    rw [hres, Oper.upon_skip]; exact hn μ' undef w' h1 h2 h3

theorem opWp_of_pure {o : Oper} {a : Act} {w : World} {μ : Mu} {σ : AMem} {v : Value} {e : Operand → Option Value} (h : PureOk P o e v) (hR : R P μ σ w) (he : ∀ x u, e x = some u → RV μ u (a.eval x)) : OpWp P o a w μ σ v σ := by
  obtain ⟨v', h1, h2⟩ := h μ w a.eval he
  exact opWp_of_mem ⟨μ, v', w, .inl h1, h2, hR, Step.refl _ _ _⟩

theorem opWp_of_ld {o : Oper} {a : Act} {w : World} {μ : Mu} {σ : AMem} {v : Value} {e : Operand → Option Value} (h : LdOk P o e σ v) (hR : R P μ σ w) (he : ∀ x u, e x = some u → RV μ u (a.eval x)) : OpWp P o a w μ σ v σ := by
  obtain ⟨v', h1, h2⟩ := h μ w a.eval hR he
  exact opWp_of_mem ⟨μ, v', w, .inl h1, h2, hR, Step.refl _ _ _⟩

theorem quietly_spec {σ σ' : AMem} {m : Option ρ} {r : ρ} (h : quietly σ σ' m = some r) : σ <+: σ' ∧ m = some r := by
  unfold quietly at h
  cases hq : Quiet.q σ σ' with
  | true => rw [hq] at h; exact ⟨Quiet.ok hq, h⟩
  | false => rw [hq] at h; cases h

theorem run_method {t : TypeId} {nm : String} {f : FuncId} {w : World} {v : Value} (h : methodF P t nm = some f) : (method (P.types.size + Made.depth) t v nm).run P w = .ok (f, v) w := by
  unfold methodF at h
  split at h
  · cases h
  rename_i i hi
  split at h
  · cases h
  rename_i m hm
  have hti : (typeInfo t).run P w = .ok i w := by
    simp [typeInfo, hi, go_sem]
  have hd : P.types.size + Made.depth = (P.types.size + Made.depth - 1) + 1 := by
    have : 0 < Made.depth := by decide
    omega
  rw [hd, method]
  split at h
  · rename_i h1 h2 h3
    cases h
    simp only [Sem.run_bind, hti, Result.andThen_ok, hm, Sem.run_pure, h1, follow, h2, receiverAt, run_underlying h3, Place.get]
  · rename_i h1 h2 h3
    cases h
    simp only [Sem.run_bind, hti, Result.andThen_ok, hm, Sem.run_pure, h1, follow, h2, receiverAt, run_underlying h3, Place.get]
  · cases h

theorem opx_call {call : CallF} (hcall : CallOk P call) {c : Call} {fo : Operand} {q : Bool} {ty : TypeId} {e : Operand → Option Value} {σ : AMem} {K : Value → AMem → Option ρ} {r : ρ} {o : Oper} (ho : o.op = .call c) (hc : c.callee = .value fo)
    (h : opx P call q (.call c) ty e σ K = some r) : ∃ v σ', K v σ' = some r ∧ σ.length ≤ σ'.length ∧ (q = true → σ <+: σ') ∧
      ∀ (a : Act) (μ : Mu) (w : World), R P μ σ w → Fresh μ σ.length σ'.length → (∀ x u, e x = some u → RV μ u (a.eval x)) → OpWp P o a w μ σ v σ' := by
  simp only [opx, hc, Option.bind_eq_some_iff] at h
  obtain ⟨fv, hfv, h⟩ := h
  obtain ⟨vs, h1, hvs⟩ := evs_spec h
  clear h
  simp only [Option.bind_eq_some_iff] at h1
  obtain ⟨⟨v, σ'⟩, hcl, h1⟩ := h1
  have hK : K v σ' = some r ∧ (q = true → calmV P fv = false → σ <+: σ') := by
    cases hb : (q && !calmV P fv) with
    | true =>
      rw [hb] at h1
      simp only [quietlyB, cond_true] at h1
      obtain ⟨h2, h3⟩ := quietly_spec h1
      exact ⟨asRes_spec h3, fun _ _ => h2⟩
    | false =>
      rw [hb] at h1
      simp only [quietlyB, cond_false] at h1
      refine ⟨asRes_spec h1, fun hq hv => ?_⟩
      rw [hq, hv] at hb; cases hb
  unfold callVal at hcl
  split at hcl
  rotate_left
  · rename_i l first cap
    obtain ⟨hlen, a0, us, hau, hy⟩ := hcall.yld _ _ _ _ hcl
    cases hau
    refine ⟨v, σ', hK.1, hlen, fun hq => hK.2 hq rfl, fun a μ w hR hfr he => ?_⟩
    intro ro nn next Q hn
    have hrf := he fo _ hfv
    generalize hafo : a.eval fo = af at hrf
    cases hrf with
    | @func _ _ first' _ cap' hny h1' h2' => exact absurd rfl (hny _)
    | @yield _ k hh =>
      obtain ⟨fn, tmps, asg, body, hyr, hround⟩ := hy μ w k (c.args.map a.eval) hR hfr hh (by simpa using hvs μ a.eval he)
      have hrun : (execOp a.eval o).run P w = .ok (.round k.b fn tmps asg body) w := by
        have hex : execOp a.eval o = (do let d ← resolve a.eval c o.type; invoke d.target d.args : Sem Next) := by
          unfold execOp; rw [ho]
        rw [hex]
        simp only [resolve, hc, hafo, Deferred.ofValue, pure_bind, invoke, Array.empty_append]
        exact hyr
      refine ⟨fun _ _ => trivial, ?_⟩
      rw [show (FW ro).round = ro from rfl, Oper.semAt_eq ro a.eval o (notDefer hrun (by intro d hd; cases hd)), hrun, Oper.uponIn_round]
      refine ⟨fun hh => (by cases hh), (hround ro _).mono ?_⟩
      rintro e' w' ⟨μ', v', rfl, g1, g2, g3⟩
      exact hn μ' v' w' g1 g2 g3
  · rename_i nm first cap
    split at hcl
    rotate_left
    · cases hcl
    rename_i t rv rest hl
    simp only [Option.bind_eq_some_iff] at hcl
    obtain ⟨f, hm, hcl⟩ := hcl
    obtain ⟨hny, hcl⟩ := not_YF hcl
    obtain ⟨hlen, hcalm, ⟨F, hF, hbody, hname⟩, hcalls⟩ := hcall.fn _ _ _ _ _ hny hcl
    refine ⟨v, σ', hK.1, hlen, fun hq => hK.2 hq rfl, fun a μ w hR hfr he => ?_⟩
    intro ro nn next Q hn
    have hrf := he fo _ hfv
    generalize hafo : a.eval fo = af at hrf
    cases hrf with
    | @func _ _ first' _ cap' _ h1' h2' =>
      have hargs := h1'.append (hvs μ a.eval he)
      rw [hl] at hargs
      generalize hll : first'.toList ++ c.args.toList.map a.eval = ll at hargs
      cases hargs with
      | cons hrv hrest =>
      cases hrv with
      | iface hrv =>
      rename_i rest' rv'
      have harr : first' ++ c.args.map a.eval = (Value.iface t rv' :: rest').toArray := by
        apply Array.toList_inj.1; simpa using hll
      have hc' := hcalls μ w (#[rv'] ++ rest'.toArray) hR hfr (by simpa using RVs.cons hrv hrest)
      have hmeth := run_method (w := w) (v := rv') hm
      have hrun : (execOp a.eval o).run P w = .ok (.enter f (#[rv'] ++ rest'.toArray)) w := by
        have hex : execOp a.eval o = (do let d ← resolve a.eval c o.type; invoke d.target d.args : Sem Next) := by
          unfold execOp; rw [ho]
        rw [hex]
        have hb : F.body.isNone = false := by cases hq : F.body <;> simp_all
        have hmeth' : (method (P.types.size + Made.depth) t rv' nm).run P w = .ok (f, rv') w := hmeth
        have hx : ((Value.iface t rv' :: rest').toArray.extract 1 (Value.iface t rv' :: rest').toArray.size) = rest'.toArray := by simp
        simp only [resolve, hc, hafo, Deferred.ofValue, pure_bind, invoke, harr, List.getElem?_toArray, List.getElem?_cons_zero, callMethod, hx, callFunc, Sem.run_bind, run_program, Result.andThen_ok, hmeth', hF, hname, hb, Bool.false_eq_true, if_false, Sem.run_pure]
      refine wpIn_of_wp (notDefer hrun (by intro d hd; cases hd)) ?_
      unfold Oper.wp
      rw [hrun, Oper.upon_enter]
      refine hc'.mono ?_
      rintro e' w' ⟨μ', v', rfl, g1, g2, g3⟩
      exact hn μ' v' w' g1 g2 g3
  · cases hcl
  rename_i f first cap
  obtain ⟨hny, hcl⟩ := not_YF hcl
  obtain ⟨hlen, hcalm, ⟨F, hF, hbody, hname⟩, hcalls⟩ := hcall.fn _ _ _ _ _ hny hcl
  refine ⟨v, σ', hK.1, hlen, (fun hq => by
    cases hcv : calmF P f with
    | true => exact hcalm hcv
    | false => exact hK.2 hq hcv), fun a μ w hR hfr he => ?_⟩
  intro ro nn next Q hn
  have hrf := he fo _ hfv
  generalize hafo : a.eval fo = af at hrf
  cases hrf with
  | @func _ _ first' _ cap' _ h1' h2' =>
    have hargs := (h1'.append (hvs μ a.eval he)).append h2'
    have hc' := hcalls μ w (first' ++ (c.args.map a.eval) ++ cap') hR hfr (by simpa using hargs)
    have hrun : (execOp a.eval o).run P w = .ok (.enter f (first' ++ (c.args.map a.eval) ++ cap')) w := by
      have hex : execOp a.eval o = (do let d ← resolve a.eval c o.type; invoke d.target d.args : Sem Next) := by
        unfold execOp; rw [ho]
      rw [hex]
      have hb : F.body.isNone = false := by cases hq : F.body <;> simp_all
      simp only [resolve, hc, hafo, Deferred.ofValue, pure_bind, invoke, callFunc, Sem.run_bind, run_program, Result.andThen_ok, hF, hname, hb, Bool.false_eq_true, if_false, Sem.run_pure]
    refine wpIn_of_wp (notDefer hrun (by intro d hd; cases hd)) ?_
    unfold Oper.wp
    rw [hrun, Oper.upon_enter]
    refine hc'.mono ?_
    rintro e' w' ⟨μ', v', rfl, g1, g2, g3⟩
    exact hn μ' v' w' g1 g2 g3

/-- What a load reads, and where; what a field's address is. -/
structure OpMore (P : Program) (o : Oper) (e : Operand → Option Value) (σ : AMem) (v : Value) : Prop where
  load : ∀ T x, o.op = .load T x → ∃ a, e x = some (.pointer (some a)) ∧ ∀ σ2 : AMem, σ2[a.block]? = σ[a.block]? → LdOk P o e σ2 v
  fa : ∀ T x f, o.op = .fieldAddr T x f → ∃ a a', e x = some (.pointer (some a)) ∧ v = .pointer (some a') ∧ a'.block = a.block

theorem opMore_none {o : Oper} {e : Operand → Option Value} {σ : AMem} {v : Value} (h1 : ∀ T x, o.op ≠ .load T x) (h2 : ∀ T x f, o.op ≠ .fieldAddr T x f) : OpMore P o e σ v :=
  ⟨fun T x h => absurd h (h1 T x), fun T x f h => absurd h (h2 T x f)⟩

theorem ldK_nat {k : Kd} {σ : AMem} {b o : Nat} (K : Value → Option ρ) : ldK k σ b o K = (ldK k σ b o some).bind K := by
  cases k <;> simp [ldK, Option.bind_assoc]
theorem ldKs_nat {σ : AMem} {b : Nat} : ∀ (ks : List Kd) (o : Nat) {ρ : Type} (K : List Value → Option ρ), ldKs ks σ b o K = (ldKs ks σ b o some).bind K
  | [], o, ρ, K => rfl
  | k :: ks, o, ρ, K => by
    simp only [ldKs]
    rw [ldK_nat, ldK_nat (K := fun v => ldKs ks σ b (o + 1) fun vs => some (v :: vs)), Option.bind_assoc]
    congr 1; funext v
    rw [ldKs_nat ks (o + 1) (fun vs => K (v :: vs)), ldKs_nat ks (o + 1) (fun vs => some (v :: vs)), Option.bind_assoc]
    congr 1
theorem ld1_at {σ σ2 : AMem} {b o : Nat} (h : σ2[b]? = σ[b]?) : ld1 σ2 b o = ld1 σ b o := by unfold ld1; rw [h]
theorem ldK_at {σ σ2 : AMem} {k : Kd} {b o : Nat} (h : σ2[b]? = σ[b]?) (K : Value → Option ρ) : ldK k σ2 b o K = ldK k σ b o K := by
  cases k <;> simp only [ldK, ldI, ldB, ldStr, ldP, ldS, ldM, ld1_at h]
theorem ldKs_at {σ σ2 : AMem} {b : Nat} (h : σ2[b]? = σ[b]?) : ∀ (ks : List Kd) (o : Nat) (K : List Value → Option ρ), ldKs ks σ2 b o K = ldKs ks σ b o K
  | [], o, K => rfl
  | k :: ks, o, K => by
    simp only [ldKs]
    rw [ldK_at h]
    congr 1; funext v
    exact ldKs_at h ks (o + 1) _

theorem opx_load_more {T : TypeId} {x : Operand} {call : CallF} {q : Bool} {ty : TypeId} {e : Operand → Option Value} {σ : AMem} {K : Value → AMem → Option ρ} {r : ρ} {o : Oper} (ho : o.op = .load T x)
    (h : opx P call q (.load T x) ty e σ K = some r) : ∃ v, K v σ = some r ∧ LdOk P o e σ v ∧ OpMore P o e σ v := by
  simp only [opx, Option.bind_eq_some_iff] at h
  obtain ⟨p, hp, h⟩ := h
  split at h
  rotate_left
  · cases h
  rename_i a0
  obtain ⟨a, ha0, h2⟩ := Option.bind_eq_some_iff.1 h
  clear h
  subst ha0
  have h := h2
  clear h2
  have main : ∃ v, K v σ = some r ∧ ∀ σ2 : AMem, σ2[a.block]? = σ[a.block]? → opx P call q (.load T x) ty e σ2 (fun v _ => some v) = some v := by
    cases hb : isAggB P T with
    | true =>
      rw [hb, cond_true] at h
      split at h
      rotate_left
      · cases h
      rename_i hsz
      rw [ldKs_nat] at h
      obtain ⟨vs, h1, h2⟩ := Option.bind_eq_some_iff.1 h
      refine ⟨_, h2, fun σ2 hq => ?_⟩
      simp only [opx, hp, Option.bind_some, hb, cond_true]
      rw [if_pos hsz, ldKs_nat, ldKs_at hq, h1]; rfl
    | false =>
      rw [hb, cond_false] at h
      obtain ⟨d, hd, h⟩ := Option.bind_eq_some_iff.1 h
      rw [ldK_nat] at h
      obtain ⟨v, h1, h2⟩ := Option.bind_eq_some_iff.1 h
      refine ⟨v, h2, fun σ2 hq => ?_⟩
      simp only [opx, hp, Option.bind_some, hb, cond_false, hd]
      rw [ldK_nat, ldK_at hq, h1]; rfl
  obtain ⟨v, hK, hat⟩ := main
  have at2 : ∀ σ2 : AMem, σ2[a.block]? = σ[a.block]? → LdOk P o e σ2 v := fun σ2 hq => by
    obtain ⟨v2, h1, h2⟩ := opx_load ho (hat σ2 hq)
    cases h1
    exact h2
  refine ⟨v, hK, at2 σ rfl, ⟨fun T' x' h' => ?_, fun T' x' f' h' => by rw [ho] at h'; cases h'⟩⟩
  rw [ho] at h'
  cases h'
  exact ⟨a, hp, at2⟩

theorem opx_fa_more {T : TypeId} {x : Operand} {fl : Nat} {call : CallF} {q : Bool} {e : Operand → Option Value} {σ : AMem} {K : Value → AMem → Option ρ} {r : ρ} {o : Oper} (ho : o.op = .fieldAddr T x fl)
    (h : opx P call q o.op o.type e σ K = some r) : ∃ v, K v σ = some r ∧ PureOk P o e v ∧ OpMore P o e σ v := by
  have h0 := h
  rw [ho] at h
  simp only [opx, Option.bind_eq_some_iff] at h
  obtain ⟨ot, hot, p, hp, h⟩ := h
  split at h
  rotate_left
  · cases h
  obtain ⟨a, ha0, h1⟩ := Option.bind_eq_some_iff.1 h
  clear h
  subst ha0
  obtain ⟨s, hs, h2⟩ := Option.bind_eq_some_iff.1 h1
  clear h1
  split at h2
  · cases h2
  rename_i hs0
  have e2 : opx P call q o.op o.type e σ (fun v _ => some v) = some (.pointer (some ⟨a.block, a.off + ot.1, none⟩)) := by
    rw [ho]
    simp only [opx, hot, hp, hs, Option.bind_some, hs0, if_false]
  obtain ⟨v2, g1, g2⟩ := opx_pure (by unfold cls0; rw [ho]) e2
  cases g1
  refine ⟨_, h2, g2, ⟨fun T' x' h' => (by rw [ho] at h'; cases h'), fun T' x' f' h' => ?_⟩⟩
  rw [ho] at h'
  cases h'
  exact ⟨a, _, hp, rfl, rfl⟩

theorem op_wp {call : CallF} (hcall : CallOk P call) {o : Oper} {q : Bool} {e : Operand → Option Value} {σ : AMem} {K : Value → AMem → Option ρ} {r : ρ} (h : opx P call q o.op o.type e σ K = some r) :
    ∃ v σ', K v σ' = some r ∧ σ.length ≤ σ'.length ∧
      (∀ (a : Act) (μ : Mu) (w : World), R P μ σ w → Fresh μ σ.length σ'.length → (∀ x u, e x = some u → RV μ u (a.eval x)) → OpWp P o a w μ σ v σ') ∧
      (cls0 P o = .pure → σ' = σ ∧ PureOk P o e v) ∧ (cls0 P o = .ld → σ' = σ) ∧ (cls0 P o = .al → (∀ c, o.op ≠ .call c) ∨ q = true → σ <+: σ') ∧ (isApp o = true → q = true → σ <+: σ') ∧ OpMore P o e σ v := by
  have hna : ∀ {x : Cls}, cls0 P o = x → x ≠ .lo → isApp o = true → False := by
    intro x hx hne ha
    unfold isApp at ha
    split at ha
    · rename_i c ho
      split at ha
      · rename_i hcal
        simp only [cls0, ho, hcal, clsB] at hx
        exact hne hx.symm
      · cases ha
    · cases ha
  have nomore : ∀ {c : Cls}, cls0 P o = c → c ≠ .ld → c ≠ .pure → ∀ {σ : AMem} {v : Value}, OpMore P o e σ v := by
    intro c hc h1 h2 σ v
    refine opMore_none (fun T x ho => ?_) (fun T x f ho => ?_)
    · unfold cls0 at hc; rw [ho] at hc; exact h1 hc.symm
    · unfold cls0 at hc; rw [ho] at hc; exact h2 hc.symm
  cases hc : cls0 P o with
  | pure =>
    have main : ∃ v, K v σ = some r ∧ PureOk P o e v ∧ OpMore P o e σ v := by
      by_cases hfa : ∃ T x f, o.op = .fieldAddr T x f
      · obtain ⟨T, x, f, ho⟩ := hfa
        exact opx_fa_more ho h
      · obtain ⟨v, h1, h2⟩ := opx_pure hc h
        exact ⟨v, h1, h2, opMore_none (fun T x ho => by unfold cls0 at hc; rw [ho] at hc; cases hc) (fun T x f ho => hfa ⟨T, x, f, ho⟩)⟩
    obtain ⟨v, h1, h2, h3⟩ := main
    exact ⟨v, σ, h1, Nat.le_refl _, fun a μ w hR hfr he => opWp_of_pure h2 hR he, fun _ => ⟨rfl, h2⟩, (fun h => by (cases h)), (fun h => by (cases h)), fun h => (hna hc (by decide) h).elim, h3⟩
  | ld =>
    have main : ∃ v, K v σ = some r ∧ LdOk P o e σ v ∧ OpMore P o e σ v := by
      by_cases hl : ∃ T x, o.op = .load T x
      · obtain ⟨T, x, ho⟩ := hl
        rw [ho] at h
        exact opx_load_more ho h
      · obtain ⟨v, h1, h2⟩ := opx_ld hc h
        exact ⟨v, h1, h2, opMore_none (fun T x ho => hl ⟨T, x, ho⟩) (fun T x f ho => by unfold cls0 at hc; rw [ho] at hc; cases hc)⟩
    obtain ⟨v, h1, h2, h3⟩ := main
    exact ⟨v, σ, h1, Nat.le_refl _, fun a μ w hR hfr he => opWp_of_ld h2 hR he, (fun h => by (cases h)), fun _ => rfl, (fun h => by (cases h)), fun h => (hna hc (by decide) h).elim, h3⟩
  | al =>
    have hc0 := hc
    by_cases hnc : ∀ c, o.op ≠ .call c
    · obtain ⟨v, x, h1, h2⟩ := opx_al hc hnc h
      exact ⟨v, σ ++ [x], h1, by simp, fun a μ w hR hfr he => opWp_of_mem (h2 μ w a.eval hR hfr he), fun h => by (cases h), fun h => by (cases h), fun _ _ => ⟨[x], rfl⟩, fun h => (hna hc (by decide) h).elim, nomore hc (by decide) (by decide)⟩
    · have : ∃ c, o.op = .call c := by
        apply Classical.byContradiction
        intro hq
        exact hnc fun c hc => hq ⟨c, hc⟩
      obtain ⟨c, ho⟩ := this
      cases hcal : c.callee with
      | builtin b =>
        simp only [cls0, ho, hcal] at hc
        cases b <;> cases hm : isMapT P c.argTypes.toList <;> simp [hm, clsB] at hc
      | invoke r m => rw [ho] at h; simp only [opx, hcal] at h; cases h
      | value fo =>
        rw [ho] at h
        obtain ⟨v, σ', h1, h2, h3, h4⟩ := opx_call hcall ho hcal h
        refine ⟨v, σ', h1, h2, h4, fun h => by (cases h), fun h => by (cases h), fun _ hq => ?_, fun h => (hna hc0 (by decide) h).elim, nomore hc0 (by decide) (by decide)⟩
        rcases hq with hq | hq
        · exact absurd ho (hq c)
        · exact h3 hq
  | lo =>
    have main : ∃ v σ', K v σ' = some r ∧ σ.length ≤ σ'.length ∧ LoOk P o e σ v σ' ∧ (isApp o = true → q = true → σ <+: σ') := by
      have nap : ∀ {x : Op}, o.op = x → (∀ c, x ≠ .call c) → isApp o = true → False := by
        intro x hx hc ha
        unfold isApp at ha
        split at ha
        · rename_i c ho
          exact hc c (hx.symm.trans ho)
        · cases ha
      cases ho : o.op
      case store =>
        rw [ho] at h
        obtain ⟨v, σ', a1, a2, a3⟩ := opx_store ho h
        exact ⟨v, σ', a1, a2, a3, fun ha => (nap ho (by intro c hc; cases hc) ha).elim⟩
      case mapUpdate =>
        rw [ho] at h
        obtain ⟨v, σ', a1, a2, a3⟩ := opx_mapUpdate ho h
        exact ⟨v, σ', a1, a2, a3, fun ha => (nap ho (by intro c hc; cases hc) ha).elim⟩
      case call c =>
        rw [ho] at h
        simp only [cls0, ho] at hc
        split at hc
        · rename_i b hb
          by_cases hba : b = .append
          · subst hba
            obtain ⟨v, σ', a1, a2, a3, a4⟩ := opx_append ho hb h
            exact ⟨v, σ', a1, a2, a3, fun _ => a4⟩
          · obtain ⟨v, σ', a1, a2, a3⟩ := opx_builtin_lo ho hb hba hc h
            exact ⟨v, σ', a1, a2, a3, fun ha => absurd (app_of ho hb ha) hba⟩
        · cases hc
      all_goals (simp [cls0, ho] at hc)
    obtain ⟨v, σ', h1, h2, h3, h4⟩ := main
    exact ⟨v, σ', h1, h2, fun a μ w hR hfr he => opWp_of_mem (h3 μ w a.eval hR hfr he), fun h => by (cases h), fun h => by (cases h), fun h => by (cases h), h4, nomore hc (by decide) (by decide)⟩

end Go.AX
