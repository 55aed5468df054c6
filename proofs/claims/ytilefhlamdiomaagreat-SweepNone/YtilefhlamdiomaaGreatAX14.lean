/-
  Regions in the order of the text.
-/
import Derived.Test.YtilefhlamdiomaaGreatAX13
set_option linter.unusedSimpArgs false
set_option linter.unusedVariables false
set_option linter.unusedSectionVars false
namespace Go.AX
open Go
variable {ρ : Type} {P : Program} [Quiet]

theorem RegR.weak {μ : Mu} {E regs : Regs} {tmps : Array Value} (h : RegR μ E tmps) (hw : Weak E regs) (hl : regs.length ≤ E.length) : RegR μ regs tmps :=
  ⟨Nat.le_trans hl h.1, fun t v ht => h.2 t v (hw t v ht)⟩

theorem put_size (a : Act) (d : Option Tmp) (v : Value) : (a.put d v).tmps.size = a.tmps.size := by
  cases d <;> simp [Act.put]

theorem put_get_other {a : Act} {d : Option Tmp} {v : Value} {t : Nat} (h : d ≠ some t) : (a.put d v).tmps[t]? = a.tmps[t]? := by
  cases d with
  | none => rfl
  | some d =>
    simp only [Act.put, Array.getElem?_setIfInBounds]
    rw [if_neg (by rintro rfl; exact h rfl)]

theorem RegR.put {μ : Mu} {regs : Regs} {a : Act} (h : RegR μ regs a.tmps) (d : Option Nat) {v v' : Value} (hv : RV μ v v') : RegR μ (putr regs d (some v)) (a.put d v').tmps := by
  refine ⟨by rw [putr_length, put_size]; exact h.1, fun t u ht => ?_⟩
  cases d with
  | none => exact h.2 t u ht
  | some d =>
    simp only [putr, getD_set] at ht
    simp only [Act.put, Array.getElem?_setIfInBounds]
    split at ht
    · rename_i hc
      cases ht
      have hlt : d < a.tmps.size := Nat.lt_of_lt_of_le hc.2 h.1
      rw [if_pos hc.1, if_pos hlt]
      exact ⟨v', rfl, hv⟩
    · rename_i hc
      obtain ⟨w, hw1, hw2⟩ := h.2 t u ht
      by_cases hdt : d = t
      · subst hdt
        have : d < regs.length := by
          rcases Nat.lt_or_ge d regs.length with h | h
          · exact h
          · rw [List.getD_eq_getElem?_getD, List.getElem?_eq_none h] at ht; cases ht
        exact absurd ⟨rfl, this⟩ hc
      · rw [if_neg hdt]; exact ⟨w, hw1, hw2⟩

theorem RegR.ev {μ : Mu} {regs : Regs} {a : Act} (h : RegR μ regs a.tmps) : ∀ x u, evr regs x = some u → RV μ u (a.eval x) := by
  intro x u hx
  cases x with
  | tmp t =>
    obtain ⟨v', h1, h2⟩ := h.2 t u hx
    simp only [Act.eval, Array.getD_eq_getD_getElem?, h1, Option.getD_some]
    exact h2
  | const v =>
    simp only [evr] at hx
    split at hx
    · cases hx; exact .constOk ‹_›
    · cases hx
  | global g => cases hx
  | func f =>
    cases hx
    exact .func (fun l hl => by cases hl) .nil .nil

theorem yes_wanted {μ : Mu} {all : Array Oper} {o : Oper} {regs : Regs} {tmps : Array Value} (h : yes all.toList o regs) (hr : RegR μ regs tmps) : Region.wanted o (yielded all tmps) = true := by
  unfold yes at h
  unfold Region.wanted
  split at h
  · rename_i hg; rw [hg]
  · rename_i j want hg
    rw [hg]
    unfold regOf at h
    split at h
    · rename_i d hd
      obtain ⟨v', h1, h2⟩ := hr.2 _ _ h
      cases h2
      unfold dstOf at hd
      simp only [Array.getElem?_toList] at hd
      simp only [yielded, hd, Option.bind_some, h1]
      simp
    · cases h

theorem no_wanted {μ : Mu} {all : Array Oper} {o : Oper} {regs : Regs} {tmps : Array Value} (h : no all.toList o regs) (hr : RegR μ regs tmps) : Region.wanted o (yielded all tmps) = false := by
  obtain ⟨j, want, hg, h⟩ := h
  unfold Region.wanted
  rw [hg]
  rcases h with ⟨b, h, hb⟩ | h
  · unfold regOf at h
    split at h
    · rename_i d hd
      obtain ⟨v', h1, h2⟩ := hr.2 _ _ h
      cases h2
      unfold dstOf at hd
      simp only [Array.getElem?_toList] at hd
      simp only [yielded, hd, Option.bind_some, h1]
      simpa using hb
    · cases h
  · unfold regOf at h
    split at h
    · rename_i d hd
      obtain ⟨v', h1, h2⟩ := hr.2 _ _ h
      unfold undef at h2
      cases h2
      unfold dstOf at hd
      simp only [Array.getElem?_toList] at hd
      simp only [yielded, hd, Option.bind_some, h1]
      rfl
    · cases h

/-- A region, in the order of the text. -/
theorem tr_wp {ro : Option Nat} {nn : Nat} {qf : Nat → QF} {all : Array Oper} {Q : Exit → Act → World → Prop} {hi : Nat} : ∀ {ops : List (Nat × Oper)} {E E' : Regs} {σ σ' : AMem}, Tr P qf all.toList ops E σ E' σ' → (∀ io ∈ ops, all[io.1]? = some io.2) → σ'.length ≤ hi →
    ∀ (a : Act) (μ : Mu) (w : World), R P μ σ w → Fresh μ σ.length hi → RegR μ E a.tmps →
      (∀ (a' : Act) (μ' : Mu) (w' : World), R P μ' σ' w' → Step μ σ w μ' σ' w' → RegR μ' E' a'.tmps → a'.defers = a.defers → a'.tmps.size = a.tmps.size → (∀ t, (∀ io ∈ ops, io.2.dst ≠ some t) → a'.tmps[t]? = a.tmps[t]?) → Q .normal a' w') →
      wpOpsIn (FW ro) nn P all Q (ops.map (·.1)) a w := by
  intro ops E E' σ σ' h
  induction h with
  | nil =>
    intro _ hi' a μ w hR hfr hreg hQ
    exact hQ a μ w hR (Step.refl _ _ _) hreg rfl rfl fun _ _ => rfl
  | @step i o rest E regs E' σ σ1 σ' v hw hy hf hk ht ih =>
    intro hall hi' a μ w hR hfr hreg hQ
    have ho : all[i]? = some o := hall (i, o) (by simp)
    have hlen := ht.len.1
    simp only [List.map_cons, wpOpsIn, ho]
    rw [if_pos (yes_wanted (regs := E) (by
      unfold yes at hy ⊢
      split at hy
      · trivial
      · exact regOf_weak hw hy) hreg)]
    refine hf.wp a μ w hR (hfr.sub (Nat.le_refl _) (by omega)) (fun x u hx => hreg.ev x u (evr_weak hw (restr_some hx).2)) _ _ _ _ ?_
    intro μ1 v1 w1 hv hR1 hS1
    have hle := hS1.le (hfr.sub (Nat.le_refl _) (by omega))
    refine ih (fun io hio => hall io (by simp [hio])) hi' (a.put o.dst v1) μ1 w1 hR1 (hfr.step hS1) ((hreg.mono hle).put _ hv) ?_
    intro a' μ' w' hR' hS' hreg' hd hsz hoth
    refine hQ a' μ' w' hR' (hS1.trans hS') hreg' (by rw [hd]; cases o.dst <;> rfl) (by rw [hsz, put_size]) ?_
    intro t ht'
    rw [hoth t fun io hio => ht' io (by simp [hio]), put_get_other (ht' (i, o) (by simp))]
  | @skip i o rest E regs E' σ σ' hw hn ht ih =>
    intro hall hi' a μ w hR hfr hreg hQ
    have ho : all[i]? = some o := hall (i, o) (by simp)
    simp only [List.map_cons, wpOpsIn, ho]
    have hn' : no all.toList o E := by
      obtain ⟨j, want, hg, h⟩ := hn
      refine ⟨j, want, hg, ?_⟩
      rcases h with ⟨b, h, hb⟩ | h
      · exact .inl ⟨b, regOf_weak hw h, hb⟩
      · exact .inr (regOf_weak hw h)
    rw [no_wanted hn' hreg]
    simp only [Bool.false_eq_true, if_false]
    refine ⟨fun _ _ => trivial, ?_⟩
    refine ih (fun io hio => hall io (by simp [hio])) hi' (a.put o.dst undef) μ w hR hfr (hreg.put _ rv_undef) ?_
    intro a' μ' w' hR' hS' hreg' hd hsz hoth
    refine hQ a' μ' w' hR' hS' hreg' (by rw [hd]; cases o.dst <;> rfl) (by rw [hsz, put_size]) ?_
    intro t ht'
    rw [hoth t fun io hio => ht' io (by simp [hio]), put_get_other (ht' (i, o) (by simp))]

end Go.AX
