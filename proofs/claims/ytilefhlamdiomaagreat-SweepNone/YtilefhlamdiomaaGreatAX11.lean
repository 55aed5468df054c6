/-
  All operations that may write, but calls.
-/
import Derived.Test.YtilefhlamdiomaaGreatAX10
set_option linter.unusedSimpArgs false
set_option linter.unusedVariables false
set_option linter.unusedSectionVars false
namespace Go.AX
open Go
variable {ρ : Type} {P : Program} [Quiet]

theorem nil_of_zero {σ : AMem} {s : Nat} {x : Option Addr} {new : List Value} (h : firstA σ s x 0 = some new) : new = [] := by
  unfold firstA at h
  split at h
  · have := (ldN_ld1 h).1; simpa using this
  · simpa [eq_comm] using h

theorem opx_append {c : Call} {call : CallF} {q : Bool} {ty : TypeId} {e : Operand → Option Value} {σ : AMem} {K : Value → AMem → Option ρ} {r : ρ} {o : Oper} (ho : o.op = .call c) (hb : c.callee = .builtin .append)
    (h : opx P call q (.call c) ty e σ K = some r) : ∃ v σ', K v σ' = some r ∧ σ.length ≤ σ'.length ∧ LoOk P o e σ v σ' ∧ (q = true → σ <+: σ') := by
  simp only [opx, hb] at h
  obtain ⟨vs, h1, hvs⟩ := evs_spec h
  clear h
  simp only [builtinA] at h1
  unfold appendB at h1
  split at h1
  rotate_left
  · cases h1
  rename_i t t' a l c2 a' l' c' hts
  split at h1
  rotate_left
  · cases h1
  rename_i E' ht'
  simp only [Option.bind_eq_some_iff] at h1
  obtain ⟨E, hE, rr, happ, hK⟩ := h1
  obtain ⟨hlen, hmain⟩ := appendD_ok (ty := o.type) (elemOfS_spec hE) ht' happ
  have hK' : K (.slice rr.1.1 rr.1.2.1 rr.1.2.2) rr.2 = some r ∧ (q = true → σ <+: rr.2) := by
    cases q with
    | true =>
      simp only [quietlyB, cond_true] at hK
      unfold quietly at hK
      cases hq : Quiet.q σ rr.2 with
      | true => rw [hq] at hK; exact ⟨hK, fun _ => Quiet.ok hq⟩
      | false => rw [hq] at hK; cases hK
    | false =>
      simp only [quietlyB, cond_false] at hK
      exact ⟨hK, fun h => by cases h⟩
  refine ⟨_, _, hK'.1, hlen, fun μ w f hR hfr hf => ?_, hK'.2⟩
  obtain ⟨cs, hex⟩ := exec_builtin (f := f) ho hb
  have hr := hvs μ f hf
  generalize c.args.toList.map f = lst at hr hex
  cases hr with
  | cons hr1 hr2 =>
    cases hr2 with
    | cons hr2 hr3 =>
      cases hr3
      obtain ⟨μ', v', w', hrun, g1, g2, g3⟩ := hmain μ w _ _ hR hfr hr1 hr2
      refine ⟨μ', v', w', .inl ?_, g1, g2, g3⟩
      rw [hex, toList_eq hts]
      simp only [builtin, Sem.run_bind, hrun, Result.andThen_ok, Sem.run_pure]

theorem app_of {o : Oper} {c : Call} {b : Builtin} (ho : o.op = .call c) (hb : c.callee = .builtin b) (h : isApp o = true) : b = .append := by
  unfold isApp at h
  rw [ho] at h
  simp only [hb] at h
  cases b <;> first | rfl | cases h

theorem opx_builtin_lo {c : Call} {b : Builtin} {call : CallF} {q : Bool} {ty : TypeId} {e : Operand → Option Value} {σ : AMem} {K : Value → AMem → Option ρ} {r : ρ} {o : Oper} (ho : o.op = .call c) (hb : c.callee = .builtin b)
    (hna : b ≠ .append) (hc : clsB b (isMapT P c.argTypes.toList) = .lo) (h : opx P call q (.call c) ty e σ K = some r) : ∃ v σ', K v σ' = some r ∧ σ.length ≤ σ'.length ∧ LoOk P o e σ v σ' := by
  simp only [opx, hb] at h
  obtain ⟨vs, h1, hvs⟩ := evs_spec h
  clear h
  cases b <;> simp only [clsB] at hc <;> first
    | (cases hc; done)
    | (simp only [builtinA] at h1; first | (cases h1; done) | skip)
  case len => cases hm : isMapT P c.argTypes.toList <;> rw [hm] at hc <;> cases hc
  case append => exact absurd rfl hna
  case copy =>
    unfold copyB at h1
    split at h1
    rotate_left
    · cases h1
    rename_i t t' a l c2 a' l' c' hts
    simp only [Option.bind_eq_some_iff] at h1
    obtain ⟨E, hE, s, hs, new, hnew, σ1, hst0, h1⟩ := h1
    have hT := elemOfS_spec hE
    have run : ∀ (μ : Mu) (w w' : World) (f : Operand → Value) (base : Option Addr) (cc : Nat) (x : Value) (new' : List Value), c.args.toList.map f = [.slice base l cc, x] → (Builtin.lenOf x).run P w = .ok l' w →
        (Builtin.firstCells s (Nat.min l' l) x).run P w = .ok new'.toArray w → (match base with | some a => storeCells a new' | none => pure ()).run P w = .ok () w' →
        (execOp f o).run P w = .ok (.value (.int .i64 (Nat.min l' l : Nat))) w' := by
      intro μ w w' f base cc x new' hargs hlen hfirst hst
      obtain ⟨cs, hex⟩ := exec_builtin (f := f) ho hb
      rw [hex, hargs, toList_eq hts]
      cases base with
      | none =>
        simp only [Sem.run_pure] at hst; cases hst
        simp only [builtin, Sem.run_bind, Builtin.copy_, List.getElem?_toArray, List.getElem?_cons_zero, List.getElem?_cons_succ, run_underlying hT, Result.andThen_ok, hlen, run_sizeOf hs, hfirst, Sem.run_pure, goInt]
      | some a =>
        simp only at hst
        simp only [builtin, Sem.run_bind, Builtin.copy_, List.getElem?_toArray, List.getElem?_cons_zero, List.getElem?_cons_succ, run_underlying hT, Result.andThen_ok, hlen, run_sizeOf hs, hfirst, Sem.run_pure, goInt, hst]
    cases a with
    | none =>
      simp only [stO, Option.some.injEq] at hst0
      subst hst0
      refine ⟨_, σ, h1, Nat.le_refl _, fun μ w f hR hfr hf => ?_⟩
      have hr := hvs μ f hf
      generalize hargs : c.args.toList.map f = lst at hr
      cases hr with
      | cons hr1 hr2 =>
        cases hr2 with
        | cons hr2 hr3 =>
          cases hr3
          cases hr1 with
          | sliceNil =>
            have hmin : Nat.min l' 0 = 0 := Nat.min_zero _
            rw [hmin] at hnew
            have hn := nil_of_zero hnew
            subst hn
            obtain ⟨new', g1, g2, g3, g4, g5⟩ := firstCells_of hR hr2 (Nat.zero_le _) hnew
            cases g1
            refine ⟨μ, _, w, .inl (run μ w w f none 0 _ [] hargs g3 (by rw [hmin]; exact g2) rfl), .int _ _, hR, Step.refl _ _ _⟩
    | some a0 =>
      simp only [stO] at hst0
      obtain ⟨cs, T, hbb, hlen, rfl⟩ := stN_spec hst0
      refine ⟨_, _, h1, by simp, fun μ w f hR hfr hf => ?_⟩
      have hr := hvs μ f hf
      generalize hargs : c.args.toList.map f = lst at hr
      cases hr with
      | cons hr1 hr2 =>
        cases hr2 with
        | cons hr2 hr3 =>
          cases hr3
          obtain ⟨new', g1, g2, g3, g4, g5⟩ := firstCells_of hR hr2 (Nat.min_le_left _ _) hnew
          cases hr1 with
          | @slice _ k _ _ cc hk hsp hl hcc hm =>
            obtain ⟨w', hrun, hR', hS⟩ := storeCells_spec hR hk hbb g1 g4 hlen
            exact ⟨μ, _, w', .inl (run μ w w' f _ cc _ new' hargs g3 g2 hrun), .int _ _, hR', hS⟩
          | @sliceEnd _ k o' cc hk hsp hm =>
            have hmin : Nat.min l' 0 = 0 := Nat.min_zero _
            have hn : new = [] := by rw [hmin] at hnew; exact nil_of_zero hnew
            subst hn
            cases g1
            rw [setRange_nil _ _ (by simpa using hlen), set_same hbb]
            exact ⟨μ, _, w, .inl (run μ w w f _ cc _ [] hargs g3 g2 rfl), .int _ _, hR, Step.refl _ _ _⟩
          | sliceZ y hz =>
            have hmin : Nat.min l' 0 = 0 := Nat.min_zero _
            have hn : new = [] := by rw [hmin] at hnew; exact nil_of_zero hnew
            subst hn
            cases g1
            rw [setRange_nil _ _ (by simpa using hlen), set_same hbb]
            exact ⟨μ, _, w, .inl (run μ w w f _ 0 _ [] hargs g3 g2 rfl), .int _ _, hR, Step.refl _ _ _⟩
  case clear =>
    unfold clearB at h1
    split at h1
    rotate_left
    · cases h1
    rename_i t v hts
    split at h1
    · rename_i kt E rr hT
      simp only [Option.bind_eq_some_iff] at h1
      obtain ⟨es, hes, h1⟩ := h1
      rcases rr with _ | r'
      · refine ⟨_, σ, h1, Nat.le_refl _, fun μ w f hR hfr hf => ?_⟩
        obtain ⟨cs, hex⟩ := exec_builtin (f := f) ho hb
        have hr := hvs μ f hf
        generalize c.args.toList.map f = lst at hr hex
        cases hr with
        | cons hr1 hr2 =>
          cases hr2
          rw [rv_mapNil hr1] at hex
          refine ⟨μ, _, w, .inl ?_, .tuple .nil, hR, Step.refl _ _ _⟩
          rw [hex, toList_eq hts]
          simp [builtin, Builtin.clear_, run_underlying hT]
      · simp only [ldMO] at hes
        refine ⟨_, _, h1, by simp [stMO], fun μ w f hR hfr hf => ?_⟩
        obtain ⟨cs, hex⟩ := exec_builtin (f := f) ho hb
        have hr := hvs μ f hf
        generalize c.args.toList.map f = lst at hr hex
        cases hr with
        | cons hr1 hr2 =>
          cases hr2
          obtain ⟨kb, hkb, hfm⟩ := rv_map hr1
          obtain ⟨entries, clock, hh, hre⟩ := map_of hR hes hkb
          have hbb : σ[r']? = some (.map es) := by
            unfold ldMap at hes
            split at hes
            · cases hes; assumption
            · cases hes
          obtain ⟨hR', hS⟩ := setObj_spec (entries2 := #[]) hR hkb hbb clock .nil
          rw [hfm] at hex
          refine ⟨μ, _, _, .inl ?_, .tuple .nil, hR', hS⟩
          rw [hex, toList_eq hts]
          simp [builtin, Builtin.clear_, run_underlying hT, run_getMap hh, run_setObj hh]
    · rename_i E a l c2 hT
      simp only [Option.bind_eq_some_iff] at h1
      obtain ⟨z, hz, h1⟩ := h1
      split at h1
      rotate_left
      · cases h1
      rename_i hzz
      simp only [Option.bind_eq_some_iff] at h1
      obtain ⟨σ', hst, h1⟩ := h1
      split at hst
      · rename_i hl0
        subst hl0
        cases hst
        refine ⟨_, σ, h1, Nat.le_refl _, fun μ w f hR hfr hf => ?_⟩
        obtain ⟨cs, hex⟩ := exec_builtin (f := f) ho hb
        have hr := hvs μ f hf
        generalize c.args.toList.map f = lst at hr hex
        cases hr with
        | cons hr1 hr2 =>
          cases hr2
          refine ⟨μ, _, w, .inl ?_, .tuple .nil, hR, Step.refl _ _ _⟩
          rw [hex, toList_eq hts]
          cases hr1 with
          | sliceNil => simp [builtin, Builtin.clear_, run_underlying hT]
          | sliceZ => simp [builtin, Builtin.clear_, run_underlying hT]
          | slice => simp [builtin, Builtin.clear_, run_underlying hT]
          | sliceEnd => simp [builtin, Builtin.clear_, run_underlying hT]
      · rename_i hl0
        simp only [Option.bind_eq_some_iff] at hst
        obtain ⟨a0, ha0, hst⟩ := hst
        subst ha0
        obtain ⟨cs, T, hbb, hlen, rfl⟩ := stN_spec hst
        refine ⟨_, _, h1, by simp, fun μ w f hR hfr hf => ?_⟩
        obtain ⟨cs', hex⟩ := exec_builtin (f := f) ho hb
        have hr := hvs μ f hf
        generalize c.args.toList.map f = lst at hr hex
        cases hr with
        | cons hr1 hr2 =>
          cases hr2
          obtain ⟨hz1, hz2⟩ := run_zeroOf hz w
          obtain ⟨g1, g2, g3⟩ := agg_cells (RV.constOk (μ := μ) hz2) hzz.1
          have hrep := zeroCells_eq z.cells l hzz.2
          cases hr1 with
          | @slice _ k _ _ cc hk hsp hl hcc hm =>
            obtain ⟨w', hrun, hR', hS⟩ := storeCells_spec hR hk hbb (g1.rep l) (by
              intro v hv; simp only [AX.rep, List.mem_flatten, List.mem_replicate] at hv; obtain ⟨l, ⟨_, rfl⟩, hvl⟩ := hv; exact g2 v hvl) hlen
            refine ⟨μ, _, w', .inl ?_, .tuple .nil, hR', hS⟩
            rw [hex, toList_eq hts]
            have hne : l ≠ 0 := hl0
            rw [← hrep] at hrun
            cases l with
            | zero => exact absurd rfl hl0
            | succ l => simp [builtin, Builtin.clear_, run_underlying hT, hz1, hrun]
          | sliceEnd => exact absurd rfl hl0
          | sliceZ => exact absurd rfl hl0
    · cases h1
  case delete =>
    unfold deleteB at h1
    split at h1
    rotate_left
    · cases h1
    rename_i t t' rr k hts
    have hk64 : ∀ {kt}, kt64 P kt = true → ∀ (b : Bool) (w : World), (Instr.checkKey b 10000 kt (.int .i64 k)).run P w = .ok () w := fun h b w => checkKey_int (kt64_spec h) b 9999 w
    split at h1
    · rename_i rr _ _ kt E hT
      split at h1
      rotate_left
      · cases h1
      rename_i hkt
      simp only [Option.bind_eq_some_iff] at h1
      obtain ⟨es, hes, h1⟩ := h1
      rcases rr with _ | r'
      · refine ⟨_, σ, h1, Nat.le_refl _, fun μ w f hR hfr hf => ?_⟩
        obtain ⟨cs, hex⟩ := exec_builtin (f := f) ho hb
        have hr := hvs μ f hf
        generalize c.args.toList.map f = lst at hr hex
        cases hr with
        | cons hr1 hr2 =>
          cases hr2 with
          | cons hr2 hr3 =>
            cases hr3
            rw [rv_mapNil hr1, rv_int hr2] at hex
            refine ⟨μ, _, w, .inl ?_, .tuple .nil, hR, Step.refl _ _ _⟩
            rw [hex, toList_eq hts]
            simp [builtin, Builtin.delete_, run_underlying hT, hk64 hkt]
      · simp only [ldMO] at hes
        refine ⟨_, _, h1, by simp [stMO], fun μ w f hR hfr hf => ?_⟩
        obtain ⟨cs, hex⟩ := exec_builtin (f := f) ho hb
        have hr := hvs μ f hf
        generalize c.args.toList.map f = lst at hr hex
        cases hr with
        | cons hr1 hr2 =>
          cases hr2 with
          | cons hr2 hr3 =>
            cases hr3
            obtain ⟨kb, hkb, hfm⟩ := rv_map hr1
            obtain ⟨entries, clock, hh, hre⟩ := map_of hR hes hkb
            have hbb : σ[r']? = some (.map es) := by
              unfold ldMap at hes
              split at hes
              · cases hes; assumption
              · cases hes
            rw [hfm, rv_int hr2] at hex
            have hki := kt64_spec hkt
            have hfind := findNow_spec (k := k) es entries.toList 0 hre
            cases hg : mapGet es k with
            | none =>
              rw [hg] at hfind
              obtain ⟨h1', h2, h3⟩ := hfind
              obtain ⟨hR', hS⟩ := setObj_spec (es2 := mapDel k es) (entries2 := entries) hR hkb hbb clock (by rw [h3]; exact hre)
              refine ⟨μ, _, _, .inl ?_, .tuple .nil, hR', hS⟩
              rw [hex, toList_eq hts]
              simp [builtin, Builtin.delete_, run_underlying hT, run_getMap hh, hk64 hkt, Instr.findKey, run_underlying hki, h1', run_setObj hh]
            | some u =>
              rw [hg] at hfind
              obtain ⟨j, e', h1', h2, h3, h4, h5, h6, h7⟩ := hfind
              rw [Nat.zero_add] at h1'
              obtain ⟨hR', hS⟩ := setObj_spec (es2 := mapDel k es) (entries2 := entries.eraseIdxIfInBounds j) hR hkb hbb clock (by rw [h6, Array.toList_eraseIdxIfInBounds]; exact hre.erase j)
              refine ⟨μ, _, _, .inl ?_, .tuple .nil, hR', hS⟩
              rw [hex, toList_eq hts]
              simp [builtin, Builtin.delete_, run_underlying hT, run_getMap hh, hk64 hkt, Instr.findKey, run_underlying hki, h1', run_setObj hh]
    · cases h1

end Go.AX
