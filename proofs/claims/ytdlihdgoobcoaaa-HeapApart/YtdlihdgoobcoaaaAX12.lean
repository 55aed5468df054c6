/-
  Every operation: what it comes to in a walk.
-/
import Derived.Test.YtdlihdgoobcoaaaAXS
set_option linter.unusedSimpArgs false
set_option linter.unusedVariables false
set_option linter.unusedSectionVars false
namespace Go.AX
open Go
variable {ρ : Type} {P : Program} [Quiet]

/-- What a call comes to. -/
def Post (P : Program) (μ : Mu) (σ : AMem) (w : World) (v : Value) (σ' : AMem) (e : Ending) (w' : World) : Prop :=
  ∃ μ' v', e = .returned v' ∧ RV μ' v v' ∧ R P μ' σ' w' ∧ Step μ σ w μ' σ' w'

def CallOk (P : Program) (call : CallF) : Prop :=
  ∀ f args σ v σ', call f args σ = some (v, σ') → σ.length ≤ σ'.length ∧ (calmF P f = true → σ <+: σ') ∧ (∃ F, P.funcs[f]? = some F ∧ F.body.isSome = true ∧ (F.name == "runtime.NumGoroutine") = false) ∧
    ∀ (μ : Mu) (w : World) (cargs : Array Value), R P μ σ w → Fresh μ σ.length σ'.length → RVs μ args cargs.toList → Calls P f cargs w (Post P μ σ w v σ')

/-- An operation, in a walk. -/
def OpWp (P : Program) (o : Oper) (a : Act) (w : World) (μ : Mu) (σ : AMem) (v : Value) (σ' : AMem) : Prop :=
  ∀ (next : Act → World → Prop) (Q : Exit → Act → World → Prop), (∀ μ' v' w', RV μ' v v' → R P μ' σ' w' → Step μ σ w μ' σ' w' → next (a.put o.dst v') w') → o.wp P a w next Q

theorem opWp_of_mem {o : Oper} {a : Act} {w : World} {μ : Mu} {σ σ' : AMem} {v : Value} (h : MemOk P μ σ w v σ' ((execOp a.eval o).run P w)) : OpWp P o a w μ σ v σ' := by
  intro next Q hn
  obtain ⟨μ', v', w', hres, h1, h2, h3⟩ := h
  unfold Oper.wp
  rcases hres with hres | ⟨hres, rfl⟩
  · rw [hres, Oper.upon_value]; exact hn μ' v' w' h1 h2 h3
  · rw [hres, Oper.upon_skip]; exact hn μ' undef w' h1 h2 h3

theorem opWp_of_pure {o : Oper} {a : Act} {w : World} {μ : Mu} {σ : AMem} {v : Value} {e : Operand → Option Value} (h : PureOk P o e v) (hR : R P μ σ w) (he : ∀ x u, e x = some u → RV μ u (a.eval x)) : OpWp P o a w μ σ v σ := by
  obtain ⟨v', h1, h2⟩ := h μ w a.eval he
  exact opWp_of_mem ⟨μ, v', w, .inl h1, h2, hR, Step.refl _ _ _⟩

theorem opWp_of_ld {o : Oper} {a : Act} {w : World} {μ : Mu} {σ : AMem} {v : Value} {e : Operand → Option Value} (h : LdOk P o e σ v) (hR : R P μ σ w) (he : ∀ x u, e x = some u → RV μ u (a.eval x)) : OpWp P o a w μ σ v σ := by
  obtain ⟨v', h1, h2⟩ := h μ w a.eval hR he
  exact opWp_of_mem ⟨μ, v', w, .inl h1, h2, hR, Step.refl _ _ _⟩

theorem quietly_spec {σ σ' : AMem} {m : Option ρ} {r : ρ} (h : quietly σ σ' m = some r) : σ <+: σ' ∧ m = some r := by
  unfold quietly at h
  cases hq : Quiet.q σ σ' with
  | true => rw [hq] at h; exact ⟨Quiet.ok hq, h⟩
  | false => rw [hq] at h; cases h

theorem run_method {t : TypeId} {nm : String} {f : FuncId} {w : World} {v : Value} (h : methodF P t nm = some f) : (method (P.types.size + Made.depth) t v nm).run P w = .ok (f, v) w := by
  unfold methodF at h
  split at h
  · cases h
  rename_i i hi
  split at h
  · cases h
  rename_i m hm
  have hti : (typeInfo t).run P w = .ok i w := by
    simp [typeInfo, hi, go_sem]
  have hd : P.types.size + Made.depth = (P.types.size + Made.depth - 1) + 1 := by
    have : 0 < Made.depth := by decide
    omega
  rw [hd, method]
  split at h
  · rename_i h1 h2 h3
    cases h
    simp only [Sem.run_bind, hti, Result.andThen_ok, hm, Sem.run_pure, h1, follow, h2, receiverAt, run_underlying h3, Place.get]
  · rename_i h1 h2 h3
    cases h
    simp only [Sem.run_bind, hti, Result.andThen_ok, hm, Sem.run_pure, h1, follow, h2, receiverAt, run_underlying h3, Place.get]
  · cases h

theorem opx_call {call : CallF} (hcall : CallOk P call) {c : Call} {fo : Operand} {q : Bool} {ty : TypeId} {e : Operand → Option Value} {σ : AMem} {K : Value → AMem → Option ρ} {r : ρ} {o : Oper} (ho : o.op = .call c) (hc : c.callee = .value fo)
    (h : opx P call q (.call c) ty e σ K = some r) : ∃ v σ', K v σ' = some r ∧ σ.length ≤ σ'.length ∧ (q = true → σ <+: σ') ∧
      ∀ (a : Act) (μ : Mu) (w : World), R P μ σ w → Fresh μ σ.length σ'.length → (∀ x u, e x = some u → RV μ u (a.eval x)) → OpWp P o a w μ σ v σ' := by
  simp only [opx, hc, Option.bind_eq_some_iff] at h
  obtain ⟨fv, hfv, h⟩ := h
  obtain ⟨vs, h1, hvs⟩ := evs_spec h
  clear h
  simp only [Option.bind_eq_some_iff] at h1
  obtain ⟨⟨v, σ'⟩, hcl, h1⟩ := h1
  have hK : K v σ' = some r ∧ (q = true → calmV P fv = false → σ <+: σ') := by
    cases hb : (q && !calmV P fv) with
    | true =>
      rw [hb] at h1
      simp only [quietlyB, cond_true] at h1
      obtain ⟨h2, h3⟩ := quietly_spec h1
      exact ⟨asRes_spec h3, fun _ _ => h2⟩
    | false =>
      rw [hb] at h1
      simp only [quietlyB, cond_false] at h1
      refine ⟨asRes_spec h1, fun hq hv => ?_⟩
      rw [hq, hv] at hb; cases hb
  unfold callVal at hcl
  split at hcl
  rotate_left
  · rename_i nm first cap
    split at hcl
    rotate_left
    · cases hcl
    rename_i t rv rest hl
    simp only [Option.bind_eq_some_iff] at hcl
    obtain ⟨f, hm, hcl⟩ := hcl
    obtain ⟨hlen, hcalm, ⟨F, hF, hbody, hname⟩, hcalls⟩ := hcall _ _ _ _ _ hcl
    refine ⟨v, σ', hK.1, hlen, fun hq => hK.2 hq rfl, fun a μ w hR hfr he => ?_⟩
    intro next Q hn
    have hrf := he fo _ hfv
    generalize hafo : a.eval fo = af at hrf
    cases hrf with
    | @func _ _ first' _ cap' h1' h2' =>
      have hargs := h1'.append (hvs μ a.eval he)
      rw [hl] at hargs
      generalize hll : first'.toList ++ c.args.toList.map a.eval = ll at hargs
      cases hargs with
      | cons hrv hrest =>
      cases hrv with
      | iface hrv =>
      rename_i rest' rv'
      have harr : first' ++ c.args.map a.eval = (Value.iface t rv' :: rest').toArray := by
        apply Array.toList_inj.1; simpa using hll
      have hc' := hcalls μ w (#[rv'] ++ rest'.toArray) hR hfr (by simpa using RVs.cons hrv hrest)
      have hmeth := run_method (w := w) (v := rv') hm
      have hrun : (execOp a.eval o).run P w = .ok (.enter f (#[rv'] ++ rest'.toArray)) w := by
        have hex : execOp a.eval o = (do let d ← resolve a.eval c o.type; invoke d.target d.args : Sem Next) := by
          unfold execOp; rw [ho]
        rw [hex]
        have hb : F.body.isNone = false := by cases hq : F.body <;> simp_all
        have hmeth' : (method (P.types.size + Made.depth) t rv' nm).run P w = .ok (f, rv') w := hmeth
        have hx : ((Value.iface t rv' :: rest').toArray.extract 1 (Value.iface t rv' :: rest').toArray.size) = rest'.toArray := by simp
        simp only [resolve, hc, hafo, Deferred.ofValue, pure_bind, invoke, harr, List.getElem?_toArray, List.getElem?_cons_zero, callMethod, hx, callFunc, Sem.run_bind, run_program, Result.andThen_ok, hmeth', hF, hname, hb, Bool.false_eq_true, if_false, Sem.run_pure]
      unfold Oper.wp
      rw [hrun, Oper.upon_enter]
      refine hc'.mono ?_
      rintro e' w' ⟨μ', v', rfl, g1, g2, g3⟩
      exact hn μ' v' w' g1 g2 g3
  · cases hcl
  rename_i f first cap
  obtain ⟨hlen, hcalm, ⟨F, hF, hbody, hname⟩, hcalls⟩ := hcall _ _ _ _ _ hcl
  refine ⟨v, σ', hK.1, hlen, (fun hq => by
    cases hcv : calmF P f with
    | true => exact hcalm hcv
    | false => exact hK.2 hq hcv), fun a μ w hR hfr he => ?_⟩
  intro next Q hn
  have hrf := he fo _ hfv
  generalize hafo : a.eval fo = af at hrf
  cases hrf with
  | @func _ _ first' _ cap' h1' h2' =>
    have hargs := (h1'.append (hvs μ a.eval he)).append h2'
    have hc' := hcalls μ w (first' ++ (c.args.map a.eval) ++ cap') hR hfr (by simpa using hargs)
    have hrun : (execOp a.eval o).run P w = .ok (.enter f (first' ++ (c.args.map a.eval) ++ cap')) w := by
      have hex : execOp a.eval o = (do let d ← resolve a.eval c o.type; invoke d.target d.args : Sem Next) := by
        unfold execOp; rw [ho]
      rw [hex]
      have hb : F.body.isNone = false := by cases hq : F.body <;> simp_all
      simp only [resolve, hc, hafo, Deferred.ofValue, pure_bind, invoke, callFunc, Sem.run_bind, run_program, Result.andThen_ok, hF, hname, hb, Bool.false_eq_true, if_false, Sem.run_pure]
    unfold Oper.wp
    rw [hrun, Oper.upon_enter]
    refine hc'.mono ?_
    rintro e' w' ⟨μ', v', rfl, g1, g2, g3⟩
    exact hn μ' v' w' g1 g2 g3

theorem op_wp {call : CallF} (hcall : CallOk P call) {o : Oper} {q : Bool} {e : Operand → Option Value} {σ : AMem} {K : Value → AMem → Option ρ} {r : ρ} (h : opx P call q o.op o.type e σ K = some r) :
    ∃ v σ', K v σ' = some r ∧ σ.length ≤ σ'.length ∧
      (∀ (a : Act) (μ : Mu) (w : World), R P μ σ w → Fresh μ σ.length σ'.length → (∀ x u, e x = some u → RV μ u (a.eval x)) → OpWp P o a w μ σ v σ') ∧
      (cls0 P o = .pure → σ' = σ ∧ PureOk P o e v) ∧ (cls0 P o = .ld → σ' = σ) ∧ (cls0 P o = .al → (∀ c, o.op ≠ .call c) ∨ q = true → σ <+: σ') := by
  cases hc : cls0 P o with
  | pure =>
    obtain ⟨v, h1, h2⟩ := opx_pure hc h
    exact ⟨v, σ, h1, Nat.le_refl _, fun a μ w hR hfr he => opWp_of_pure h2 hR he, fun _ => ⟨rfl, h2⟩, (fun h => by (cases h)), (fun h => by (cases h))⟩
  | ld =>
    obtain ⟨v, h1, h2⟩ := opx_ld hc h
    exact ⟨v, σ, h1, Nat.le_refl _, fun a μ w hR hfr he => opWp_of_ld h2 hR he, (fun h => by (cases h)), fun _ => rfl, (fun h => by (cases h))⟩
  | al =>
    by_cases hnc : ∀ c, o.op ≠ .call c
    · obtain ⟨v, x, h1, h2⟩ := opx_al hc hnc h
      exact ⟨v, σ ++ [x], h1, by simp, fun a μ w hR hfr he => opWp_of_mem (h2 μ w a.eval hR hfr he), fun h => by (cases h), fun h => by (cases h), fun _ _ => ⟨[x], rfl⟩⟩
    · have : ∃ c, o.op = .call c := by
        apply Classical.byContradiction
        intro hq
        exact hnc fun c hc => hq ⟨c, hc⟩
      obtain ⟨c, ho⟩ := this
      cases hcal : c.callee with
      | builtin b =>
        simp only [cls0, ho, hcal] at hc
        cases b <;> cases hm : isMapT P c.argTypes.toList <;> simp [hm, clsB] at hc
      | invoke r m => rw [ho] at h; simp only [opx, hcal] at h; cases h
      | value fo =>
        rw [ho] at h
        obtain ⟨v, σ', h1, h2, h3, h4⟩ := opx_call hcall ho hcal h
        refine ⟨v, σ', h1, h2, h4, fun h => by (cases h), fun h => by (cases h), fun _ hq => ?_⟩
        rcases hq with hq | hq
        · exact absurd ho (hq c)
        · exact h3 hq
  | lo =>
    have main : ∃ v σ', K v σ' = some r ∧ σ.length ≤ σ'.length ∧ LoOk P o e σ v σ' := by
      cases ho : o.op
      case store => rw [ho] at h; exact opx_store ho h
      case mapUpdate => rw [ho] at h; exact opx_mapUpdate ho h
      case call c =>
        rw [ho] at h
        simp only [cls0, ho] at hc
        split at hc
        · rename_i b hb
          exact opx_builtin_lo ho hb hc h
        · cases hc
      all_goals (simp [cls0, ho] at hc)
    obtain ⟨v, σ', h1, h2, h3⟩ := main
    exact ⟨v, σ', h1, h2, fun a μ w hR hfr he => opWp_of_mem (h3 μ w a.eval hR hfr he), fun h => by (cases h), fun h => by (cases h), fun h => by (cases h)⟩

end Go.AX
