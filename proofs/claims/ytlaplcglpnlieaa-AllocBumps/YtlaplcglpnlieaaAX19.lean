/-
  Functions: the executor is sound.
-/
import Derived.Test.YtlaplcglpnlieaaAX18
set_option linter.unusedSimpArgs false
set_option linter.unusedVariables false
set_option linter.unusedSectionVars false
namespace Go.AX
open Go
variable {ρ : Type} {P : Program} [Quiet]

/-- A result, read. -/
def resM (tmps : Array Value) (r : ResultVar) : Sem Value :=
  match r with
  | .tmp t => pure (tmps.getD t undef)
  | .cell a t => do loadVar t (← asAddr (tmps.getD a undef))

theorem resOne_spec {μ : Mu} {σ : AMem} {w : World} {regs : Regs} {tmps : Array Value} (hR : R P μ σ w) (hreg : RegR μ regs tmps) {r : ResultVar} {v : Value} (h : resOne P regs σ r = some v) :
    ∃ v', RV μ v v' ∧ (resM tmps r).run P w = .ok v' w := by
  cases r with
  | tmp t =>
    simp only [resOne] at h
    obtain ⟨v', h1, h2⟩ := hreg.2 t v h
    refine ⟨v', h2, ?_⟩
    simp [resM, Array.getD_eq_getD_getElem?, h1]
  | cell t T =>
    simp only [resOne, Option.bind_eq_some_iff] at h
    obtain ⟨u, hu, h⟩ := h
    obtain ⟨u', h1, h2⟩ := hreg.2 t u hu
    split at h
    · rename_i a
      obtain ⟨k, hk, hv⟩ := rv_ptr h2
      have hget : tmps.getD t undef = .pointer (some ⟨k.b, k.o + a.off, none⟩) := by simp [Array.getD_eq_getD_getElem?, h1, hv]
      cases hb : isAggB P T with
      | true =>
        rw [hb] at h
        simp only [cond_true, Option.bind_eq_some_iff] at h
        obtain ⟨s, hs, vs, hvs, h⟩ := h
        cases h
        obtain ⟨hl, hld⟩ := ldN_ld1 hvs
        obtain ⟨vs', hr, hrun, hleaf⟩ := run_loadCells_of hR hk hl hld
        obtain ⟨d, hd⟩ : ∃ d, P.underlying T = some d := by
          unfold isAggB at hb; cases hq : P.underlying T with
          | none => simp [hq] at hb
          | some d => exact ⟨d, rfl⟩
        refine ⟨.agg vs'.toArray, .agg (by simpa using hr) (by simpa using hleaf), ?_⟩
        simp only [resM, hget, asAddr, Sem.run_bind, Sem.run_pure, Result.andThen_ok, loadVar, isAgg_run hd, hb, if_true, run_sizeOf hs, hrun]
      | false =>
        rw [hb] at h
        simp only [cond_false, Option.bind_eq_some_iff] at h
        obtain ⟨d, hd, h⟩ := h
        obtain ⟨v', hc, hr, _⟩ := cell_of hR h hk
        refine ⟨v', hr, ?_⟩
        simp only [resM, hget, asAddr, Sem.run_bind, Sem.run_pure, Result.andThen_ok, loadVar, isAgg_run hd, hb, Bool.false_eq_true, if_false, run_load, hc]
    · cases h

theorem resAll_spec {μ : Mu} {σ : AMem} {w : World} {regs : Regs} {tmps : Array Value} (hR : R P μ σ w) (hreg : RegR μ regs tmps) : ∀ {rs : List ResultVar} {vs : List Value}, resAll P regs σ rs = some vs →
    ∃ vs', RVs μ vs vs' ∧ (rs.mapM (resM tmps)).run P w = .ok vs' w
  | [], vs, h => by simp [resAll] at h; subst h; exact ⟨[], .nil, by simp⟩
  | r :: rs, vs, h => by
    simp only [resAll, Option.bind_eq_some_iff] at h
    obtain ⟨v, hv, us, hus, h⟩ := h
    cases h
    obtain ⟨v', h1, h2⟩ := resOne_spec hR hreg hv
    obtain ⟨us', g1, g2⟩ := resAll_spec hR hreg hus
    refine ⟨v' :: us', .cons h1 g1, ?_⟩
    simp only [List.mapM_cons, Sem.run_bind, h2, Result.andThen_ok, g2, Sem.run_pure]

theorem fin_spec {μ : Mu} {σ σ' : AMem} {w : World} {regs : Regs} {tmps : Array Value} {F : Func} {x : AExit} {v : Value} (hR : R P μ σ w) (hreg : RegR μ regs tmps) (h : fin P F x regs σ = some (v, σ')) :
    σ' = σ ∧ (x = .normal ∨ x = .ret) ∧ ∃ v', RV μ v v' ∧ (results F tmps).run P w = .ok v' w := by
  have main : (resAll P regs σ F.results.toList).bind (fun vs => some (resOf vs, σ)) = some (v, σ') → σ' = σ ∧ ∃ v', RV μ v v' ∧ (results F tmps).run P w = .ok v' w := by
    intro h
    simp only [Option.bind_eq_some_iff] at h
    obtain ⟨vs, hvs, h⟩ := h
    cases h
    refine ⟨rfl, ?_⟩
    obtain ⟨vs', h1, h2⟩ := resAll_spec hR hreg hvs
    have hrun : (F.results.mapM (resM tmps)).run P w = .ok vs'.toArray w := by
      rw [Array.mapM_eq_mapM_toList]
      simp only [Sem.run_map, h2, Result.andThen_ok]
    have hres : results F tmps = (do
        let vs ← F.results.mapM (resM tmps)
        pure (if h : vs.size = 1 then vs[0] else .tuple vs)) := rfl
    rw [hres]
    simp only [Sem.run_bind, hrun, Result.andThen_ok, Sem.run_pure]
    cases h1 with
    | nil => exact ⟨_, .tuple .nil, rfl⟩
    | cons h1 t =>
      cases t with
      | nil => exact ⟨_, h1, rfl⟩
      | cons h3 t => exact ⟨_, .tuple (.cons h1 (.cons h3 t)), rfl⟩
  unfold fin at h
  cases x with
  | exit id => cases h
  | normal => obtain ⟨h1, h2⟩ := main h; exact ⟨h1, .inl rfl, h2⟩
  | ret => obtain ⟨h1, h2⟩ := main h; exact ⟨h1, .inr rfl, h2⟩

theorem fin_mem {σ σ' : AMem} {regs : Regs} {F : Func} {x : AExit} {v : Value} (h : fin P F x regs σ = some (v, σ')) : σ' = σ := by
  unfold fin at h
  cases x <;> simp only at h
  · simp only [Option.bind_eq_some_iff] at h; obtain ⟨_, _, h⟩ := h; cases h; rfl
  · cases h
  · simp only [Option.bind_eq_some_iff] at h; obtain ⟨_, _, h⟩ := h; cases h; rfl

def ExtOk (P : Program) (X : Ext) : Prop := ∀ f g, X f = some g → CallOk P (fun f' args σ => if f' = f then g args σ else none)

theorem regR_init {μ : Mu} {args : List Value} {cargs : Array Value} (h : RVs μ args cargs.toList) (n : Nat) : RegR μ (args.map some ++ List.replicate (n - args.length) (some undef)) (cargs ++ Array.replicate (n - cargs.size) undef) := by
  have hl := h.length
  simp only [Array.length_toList] at hl
  refine ⟨by simp; omega, fun t v hv => ?_⟩
  rw [List.getD_eq_getElem?_getD] at hv
  by_cases ht : t < args.length
  · rw [List.getElem?_append_left (by simpa using ht), List.getElem?_map, List.getElem?_eq_getElem ht] at hv
    simp at hv
    subst hv
    obtain ⟨v', h1, h2⟩ := h.get t _ (List.getElem?_eq_getElem ht)
    refine ⟨v', ?_, h2⟩
    rw [Array.getElem?_append_left (by omega)]
    simpa using h1
  · rw [List.getElem?_append_right (by simp; omega)] at hv
    simp only [List.length_map, List.getElem?_replicate] at hv
    split at hv
    · simp at hv; subst hv
      refine ⟨undef, ?_, rv_undef⟩
      rw [Array.getElem?_append_right (by omega)]
      simp only [Array.getElem?_replicate]
      rw [if_pos (by omega)]
    · cases hv

theorem fn_ok (hmix : P.follows .mixedOrders = true) {X : Ext} (hX : ExtOk P X) (hXa : ExtAdds X) {H : FuncId → Hints} : ∀ k, CallOk P (fn P X H k)
  | 0 => by intro f args σ v σ' h; cases h
  | k + 1 => by
    have ih := fn_ok hmix hX hXa (H := H) k
    intro f args σ v σ' h
    have hcalm : calmF P f = true → σ <+: σ' := fun hf => fn_adds hXa 6 (k + 1) f args σ v σ' hf h
    simp only [fn] at h
    split at h
    · rename_i g hg
      have := hX f g hg f args σ v σ' (by simp only [if_true]; exact h)
      exact this
    · rename_i hXn
      split at h
      · cases h
      · rename_i F hF
        split at h
        · cases h
        · rename_i c hb
          split at h
          · cases h
          · rename_i hname
            obtain ⟨⟨x, regs', σ1, hK, hl⟩, hwp⟩ := exec_ok hmix ih c h
            have hs := fin_mem hK
            subst hs
            refine ⟨hl, hcalm, ⟨F, hF, by rw [hb]; rfl, by simpa using hname⟩, fun μ w cargs hR hfr hargs => ?_⟩
            refine calls_of_wp hF hb ?_
            have hinit := regR_init hargs F.ntmps
            refine wp_mono (hwp σ'.length (fun x regs σ2 hq => by rw [fin_mem hq]; exact Nat.le_refl _) { tmps := cargs ++ Array.replicate (F.ntmps - cargs.size) undef, defers := [] } μ w hR hfr hinit rfl) ?_
            rintro e a' w' ⟨x', regs2, σ2, μ', hx, hq, g1, g2, g3, g4, g5, g6⟩
            obtain ⟨h1, h2, v', h3, h4⟩ := fin_spec g1 g3 hq
            subst h1
            have post : a'.defers = [] ∧ ∃ v, (results F a'.tmps).run P w' = .ok v w' ∧ Post P μ σ w _ σ' (.returned v) w' := ⟨g4, v', h4, μ', v', rfl, h3, g1, g2⟩
            rcases h2 with rfl | rfl
            · cases hx; exact post
            · cases hx; exact post

end Go.AX
