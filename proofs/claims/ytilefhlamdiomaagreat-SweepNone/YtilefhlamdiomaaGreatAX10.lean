/-
  append.
-/
import Derived.Test.YtilefhlamdiomaaGreatAX9
set_option linter.unusedSimpArgs false
set_option linter.unusedVariables false
set_option linter.unusedSectionVars false
namespace Go.AX
open Go
variable {ρ : Type} {P : Program} [Quiet]

theorem zeroCells_eq (z : Array Value) (n : Nat) (hz : 0 < z.size) : (Builtin.zeroCells z n).toList = rep n z.toList := zeroCells_rep z n hz

theorem fixed_of {μ : Mu} {a : Option Addr} {l c : Nat} {d : Value} (hf : fixedB a = true) (h : RV μ (.slice a l c) d) : l = 0 ∧ c = 0 ∧ ∃ y, d = .slice y 0 0 := by
  cases h with
  | sliceNil => exact ⟨rfl, rfl, _, rfl⟩
  | sliceZ y hz => exact ⟨rfl, rfl, _, rfl⟩
  | slice hk hs _ _ _ => simp [fixedB, hs] at hf
  | sliceEnd hk hs _ => simp [fixedB, hs] at hf

theorem notfixed {a : Option Addr} (h : fixedB a = false) : ∃ a0, a = some a0 ∧ a0.spot = none := by
  cases a with
  | none => cases h
  | some a => cases hs : a.spot with
    | none => exact ⟨a, rfl, hs⟩
    | some z => simp [fixedB, hs] at h

theorem appendA_ok {E : TypeId} {t t' E' ty : TypeId} {a a' : Option Addr} {l c l' c' : Nat} {σ : AMem} {K : Value → AMem → Option ρ} {r : ρ} (ht : P.underlying t = some (.slice E)) (ht' : P.underlying t' = some (.slice E'))
    (h : appendA P E (a, l, c) (a', l', c') σ K = some r) : ∃ v σ', K v σ' = some r ∧ σ.length ≤ σ'.length ∧
      ∀ (μ : Mu) (w : World) (d x : Value), R P μ σ w → Fresh μ σ.length σ'.length → RV μ (.slice a l c) d → RV μ (.slice a' l' c') x →
        ∃ μ' v' w', (Builtin.append_ #[t, t'] ty #[d, x]).run P w = .ok v' w' ∧ RV μ' v v' ∧ R P μ' σ' w' ∧ Step μ σ w μ' σ' w' := by
  unfold appendA at h
  simp only [Option.bind_eq_some_iff] at h
  obtain ⟨s, hs, by_, hby, new, hnew, z, hz, h⟩ := h
  split at h
  · cases h
  rename_i hzz
  have hzz : isTup z = false ∧ szOf P E = some z.cells.size ∧ 0 < z.cells.size := Classical.not_not.1 hzz
  obtain ⟨hzt, hzs, hz0⟩ := hzz
  rw [hs] at hzs
  cases hzs
  split at h
  · rename_i hfit
    cases hfx : fixedB a with
    | true =>
      rw [hfx] at h
      simp only [cond_true] at h
      split at h
      · rename_i hn0
        refine ⟨_, σ, h, Nat.le_refl _, fun μ w d x hR hfr hd hx => ?_⟩
        obtain ⟨new', h1, h2, h3, h4, h5⟩ := firstCells_of hR hx (Nat.le_refl _) hnew
        have hl'0 : l' = 0 := by omega
        have hl0 : l = 0 := by omega
        subst hl'0; subst hl0
        have hnil : new' = [] := by
          cases a' with
          | none => simp [firstA] at hnew; subst hnew; cases h1; rfl
          | some a' =>
            have := h5 (by simp)
            simp at this; subst this; cases h1; rfl
        subst hnil
        obtain ⟨_, rfl, y, rfl⟩ := fixed_of hfx hd
        refine ⟨μ, .slice y (0 + 0) 0, w, run_append_fit ht ht' hs h3 (by omega) h2 ?_, hd, hR, Step.refl _ _ _⟩
        cases y <;> simp [storeCells]
      · cases h
    | false =>
      rw [hfx] at h
      obtain ⟨a0, rfl, hsp0⟩ := notfixed hfx
      simp only [cond_false, Option.bind_eq_some_iff, Option.some.injEq, exists_eq_left'] at h
      obtain ⟨σ', hst, h⟩ := h
      obtain ⟨cs, T, hb, hlen, rfl⟩ := stN_spec hst
      refine ⟨_, _, h, by simp, fun μ w d x hR hfr hd hx => ?_⟩
      obtain ⟨new', h1, h2, h3, h4, h5⟩ := firstCells_of hR hx (Nat.le_refl _) hnew
      cases hd with
      | @slice _ k _ _ c2 hk hsp hl hc hm =>
        obtain ⟨w', hrun, hR', hS⟩ := storeCells_spec hR hk hb h1 h4 hlen
        refine ⟨μ, _, w', run_append_fit ht ht' hs h3 (Nat.le_trans hfit hc) h2 ?_, .slice hk hsp hfit hc hm, hR', hS⟩
        simp only [addr_add, ← Nat.add_assoc] at hrun ⊢
        exact hrun
      | @sliceEnd _ k o' c2 hk hsp hm =>
        have hl'0 : l' = 0 := by omega
        subst hl'0
        have hnew0 : new = [] ∧ new' = [] := by
          cases a' with
          | none => simp [firstA] at hnew; subst hnew; cases h1; exact ⟨rfl, rfl⟩
          | some a' =>
            have := h5 (by simp)
            simp at this; subst this; cases h1; exact ⟨rfl, rfl⟩
        obtain ⟨rfl, rfl⟩ := hnew0
        rw [setRange_nil _ _ (by simpa using hlen), set_same hb]
        refine ⟨μ, _, w, run_append_fit ht ht' hs h3 (by omega) h2 ?_, .sliceEnd hk hsp hm, hR, Step.refl _ _ _⟩
        simp [storeCells]
      | sliceZ y hz => rw [hsp0] at hz; cases hz
  · rename_i hfit
    split at h
    rotate_left
    · cases h
    rename_i hroom
    obtain ⟨hroom, hb0⟩ := hroom
    cases hfx : fixedB a with
    | true =>
      rw [hfx] at h
      simp only [cond_true] at h
      split at h
      · rename_i hl0
        refine ⟨_, _, h, by simp, fun μ w d x hR hfr hd hx => ?_⟩
        subst hl0
        obtain ⟨new', h1, h2, h3, h4, h5⟩ := firstCells_of (w := w.drew) hR.drew hx (Nat.le_refl _) hnew
        have h3' : (Builtin.lenOf x).run P w = .ok l' w := by
          cases hx <;> rfl
        have hl' : new.length = l' * z.cells.size := by
          cases a' with
          | none =>
            unfold firstA at hnew
            simp only at hnew
            split at hnew
            · cases hnew; simp [*]
            · cases hnew
          | some a' => exact h5 (by simp)
        obtain ⟨_, rfl, y, rfl⟩ := fixed_of hfx hd
        have hold : (Builtin.firstCells z.cells.size 0 (.slice y 0 0)).run P w.drew = .ok #[] w.drew := by
          cases y with
          | none => rfl
          | some a => simp only [Builtin.firstCells, Nat.zero_mul]; rfl
        obtain ⟨cap, rest, hcap, hrest, hrun⟩ := run_append_grow (ty := ty) ht ht' hs hby h3' hfit hroom hb0 z hz hold h2
        have hrl : rest.toList.length = (cap - l') * z.cells.size := by rw [hrest]; simp [Builtin.zeroCells]
        have hnl' := h1.length
        have hsum : l' * z.cells.size + (cap - l') * z.cells.size = cap * z.cells.size := by
          rw [← Nat.add_mul]; congr 1; omega
        refine ⟨μ.put σ.length ⟨w.heap.size, 0, z.cells.size, l' * z.cells.size, cap * z.cells.size⟩, _, _, hrun, ?_, ?_, (Step.drew μ σ w).trans (Step.alloc rfl)⟩
        · rw [Nat.zero_add]
          refine RV.slice (a := ⟨σ.length, 0, none⟩) (Mu.put_same _ _ _) rfl (Nat.le_refl _) (by omega) (by simp)
        · refine hR.drew.alloc (hfr _ (Nat.le_refl _) (by simp)) rfl ?_
          refine ⟨_, E, (0, 0), rfl, hl', by simp only; rw [← hsum]; omega, ?_, (cellsOf_sz hs).symm, fun _ => rfl, h4, ?_⟩
          · simp only [Array.size_append, Array.size_empty, List.size_toArray, Nat.zero_add]
            have : rest.size = (cap - l') * z.cells.size := by simpa using hrl
            omega
          · simp only [Array.toList_append, List.drop_zero, Array.toList_empty, List.nil_append]
            rw [List.take_append_of_le_length (by omega), List.take_of_length_le (by omega)]
            exact h1
      · cases h
    | false =>
      rw [hfx] at h
      obtain ⟨a0, rfl, hsp0⟩ := notfixed hfx
      simp only [cond_false, Option.bind_eq_some_iff, Option.some.injEq, exists_eq_left'] at h
      split at h
      rotate_left
      · cases h
      rename_i hel
      simp only [Option.bind_eq_some_iff] at h
      obtain ⟨old, hold, h⟩ := h
      cases hwb : writableB σ a0.block with
      | false => rw [hwb] at h; cases h
      | true =>
        rw [hwb] at h
        simp only [cond_true] at h
        refine ⟨_, _, h, by simp, fun μ w d x hR hfr hd hx => ?_⟩
        have hb : ∃ cs, σ[a0.block]? = some (.cells cs E true) := by
          unfold elemAt at hel
          unfold writableB at hwb
          split at hel
          · rename_i hq; cases hel; rw [hq] at hwb; simp only at hwb; subst hwb; exact ⟨_, hq⟩
          · cases hel
        obtain ⟨cs, hb⟩ := hb
        have hbl : a0.block < σ.length := (List.getElem?_eq_some_iff.1 hb).1
        obtain ⟨new', h1, h2, h3, h4, h5⟩ := firstCells_of hR hx (Nat.le_refl _) hnew
        obtain ⟨new'', g1, g2, g3, g4, g5⟩ := firstCells_of (w := w.drew) hR.drew hx (Nat.le_refl _) hnew
        have hl' : new.length = l' * z.cells.size := by
          cases a' with
          | none =>
            unfold firstA at hnew
            simp only at hnew
            split at hnew
            · cases hnew; simp [*]
            · cases hnew
          | some a' => exact h5 (by simp)
        have hfresh : μ σ.length = none := hfr _ (Nat.le_refl _) (by simp)
        have hadd : (l + l') * z.cells.size = l * z.cells.size + l' * z.cells.size := Nat.add_mul _ _ _
        -- a new array
        have grow : ∀ (d : Value) (y : Option Addr) (c2 : Nat), d = .slice y l c2 → ¬ l + l' ≤ c2 → ∀ (old' : List Value), RVs μ old old' → (Builtin.firstCells z.cells.size l d).run P w.drew = .ok old'.toArray w.drew → (∀ v ∈ old, v.oneCell' = true) →
            ∃ μ' v' w', (Builtin.append_ #[t, t'] ty #[d, x]).run P w = .ok v' w' ∧ RV μ' (.slice (some ⟨σ.length, 0, none⟩) (l + l') (l + l')) v' ∧
              R P μ' (σ.set a0.block .dead ++ [AObj.cells (old ++ new) E true]) w' ∧ Step μ σ w μ' (σ.set a0.block .dead ++ [AObj.cells (old ++ new) E true]) w' := by
          intro d y c2 hdd hnf old' ho1 ho2 ho3
          subst hdd
          obtain ⟨cap, rest, hcap, hrest, hrun⟩ := run_append_grow (ty := ty) ht ht' hs hby h3 hnf hroom hb0 z hz ho2 g2
          have hrl : rest.size = (cap - (l + l')) * z.cells.size := by rw [hrest]; simp [Builtin.zeroCells]
          have hol := (ldN_ld1 hold).1
          have hol' := ho1.length
          have hnl' := g1.length
          have hsum : (l + l') * z.cells.size + (cap - (l + l')) * z.cells.size = cap * z.cells.size := by
            rw [← Nat.add_mul]; congr 1; omega
          obtain ⟨k, hk⟩ : ∃ k, μ a0.block = some k := by
            cases hd with
            | sliceZ y hz => rw [hsp0] at hz; cases hz
            | slice hkk _ _ _ _ => exact ⟨_, hkk⟩
            | sliceEnd hkk _ _ => exact ⟨_, hkk⟩
          have hwr : writable σ a0.block := writable_of hwb
          -- the old object dies first
          have hR1 : R P μ (σ.set a0.block .dead) w.drew := hR.drew.upd hk (alive_writable hwr) hwr rfl (fun _ _ => rfl) trivial
          have hS1 : Step μ σ w μ (σ.set a0.block .dead) w.drew := Step.upd hk hbl hwr rfl rfl rfl rfl (fun _ _ => rfl)
          have hsl : (σ.set a0.block .dead).length = σ.length := by simp
          refine ⟨μ.put σ.length ⟨w.heap.size, 0, z.cells.size, (l + l') * z.cells.size, cap * z.cells.size⟩, _, _, hrun, ?_, ?_, hS1.trans ?_⟩
          · exact RV.slice (a := ⟨σ.length, 0, none⟩) (Mu.put_same _ _ _) rfl (Nat.le_refl _) (by omega) (by simp)
          · rw [← hsl]
            refine hR1.alloc (by rw [hsl]; exact hfresh) rfl ?_
            refine ⟨_, E, (0, 0), rfl, by rw [List.length_append, hol, hl', hadd], by simp only; omega, ?_, (cellsOf_sz hs).symm, fun _ => rfl, ?_, ?_⟩
            · simp only [Array.size_append, List.size_toArray]
              omega
            · intro v hv
              rcases List.mem_append.1 hv with hv | hv
              · exact ho3 v hv
              · exact h4 v hv
            · simp only [Array.toList_append, List.drop_zero]
              rw [List.take_append_of_le_length (by rw [List.length_append]; omega), List.take_of_length_le (by rw [List.length_append]; omega)]
              exact ho1.append g1
          · rw [← hsl]; exact Step.alloc rfl
        cases hd with
        | @slice _ k _ _ c2 hk hsp hl hc hm =>
          have hsz := elemAt_blk hR hel hk
          rw [cellsOf_sz hs] at hsz
          obtain ⟨hol, hold1⟩ := ldN_ld1 hold
          obtain ⟨old', ho1, ho2, ho3⟩ := run_loadCells_of hR.drew hk hol hold1
          by_cases hfit2 : l + l' ≤ c2
          · obtain ⟨w', μ', hrun, hR', hS, hμ⟩ := hR.regrow hfresh hk hb hsz (.inl hold) h1 h4 hl' hfit2 (by rw [hsz] at hm; exact hm)
            refine ⟨μ', _, w', run_append_fit ht ht' hs h3 hfit2 h2 ?_, ?_, hR', hS⟩
            · simp only [addr_add]; exact hrun
            · exact RV.slice (a := ⟨σ.length, 0, none⟩) hμ rfl (Nat.le_refl _) hfit2 (by simp)
          · exact grow _ _ _ rfl hfit2 old' ho1 (by simpa [Builtin.firstCells] using ho2) ho3
        | @sliceEnd _ k o' c2 hk hsp hm =>
          have hsz := elemAt_blk hR hel hk
          rw [cellsOf_sz hs] at hsz
          have holdn : old = [] := by
            have := (ldN_ld1 hold).1
            simpa using this
          subst holdn
          by_cases hfit2 : 0 + l' ≤ c2
          · obtain ⟨w', μ', hrun, hR', hS, hμ⟩ := hR.regrow (off := o') (l := 0) (old := []) hfresh hk hb hsz (.inr ⟨rfl, rfl⟩) h1 h4 hl' hfit2 (by rw [hsz] at hm; exact hm)
            refine ⟨μ', _, w', run_append_fit ht ht' hs h3 hfit2 h2 ?_, ?_, hR', hS⟩
            · simp only [addr_add]; exact hrun
            · exact RV.slice (a := ⟨σ.length, 0, none⟩) hμ rfl (Nat.le_refl _) hfit2 (by simp)
          · exact grow _ _ _ rfl hfit2 [] .nil (by simp only [Builtin.firstCells, Nat.zero_mul]; rfl) (by simp)
        | sliceZ y hz => rw [hsp0] at hz; cases hz

/-- append, as a function. -/
theorem appendD_ok {E : TypeId} {t t' E' ty : TypeId} {a a' : Option Addr} {l c l' c' : Nat} {σ : AMem} {r : SlV × AMem} (ht : P.underlying t = some (.slice E)) (ht' : P.underlying t' = some (.slice E'))
    (h : appendD P E (a, l, c) (a', l', c') σ = some r) : σ.length ≤ r.2.length ∧
      ∀ (μ : Mu) (w : World) (d x : Value), R P μ σ w → Fresh μ σ.length r.2.length → RV μ (.slice a l c) d → RV μ (.slice a' l' c') x →
        ∃ μ' v' w', (Builtin.append_ #[t, t'] ty #[d, x]).run P w = .ok v' w' ∧ RV μ' (.slice r.1.1 r.1.2.1 r.1.2.2) v' ∧ R P μ' r.2 w' ∧ Step μ σ w μ' r.2 w' := by
  obtain ⟨v, σ', hK, hlen, hmain⟩ := appendA_ok (ty := ty) ht ht' h
  unfold slK at hK
  split at hK
  · cases hK; exact ⟨hlen, hmain⟩
  · cases hK

end Go.AX
