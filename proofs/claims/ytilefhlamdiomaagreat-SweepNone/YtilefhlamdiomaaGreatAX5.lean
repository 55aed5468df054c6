/-
  The operations that read memory, and those that write it: what they do to the relation.
-/
import Derived.Test.YtilefhlamdiomaaGreatAX4
set_option linter.unusedSimpArgs false
set_option linter.unusedVariables false
set_option linter.unusedSectionVars false
namespace Go.AX
open Go
variable {ρ : Type} {P : Program} [Quiet]

theorem cell_of {μ : Mu} {σ : AMem} {w : World} (hR : R P μ σ w) {b o : Nat} {v : Value} {k : Blk} (hl : ld1 σ b o = some v) (hk : μ b = some k) :
    ∃ v', w.cell? ⟨k.b, k.o + o, none⟩ = some v' ∧ RV μ v v' ∧ v.oneCell' = true := by
  unfold ld1 at hl
  split at hl
  · rename_i vs T rw hb
    obtain ⟨c, T', fz, hx, h1, h2, h3, h4, h5, h6, h7⟩ := hR.obj _ _ _ hb hk
    obtain ⟨v', hv', hr⟩ := h7.get _ _ hl
    have ho : o < k.n := by
      have := (List.getElem?_eq_some_iff.1 hl).1; omega
    rw [List.getElem?_take, if_pos ho, List.getElem?_drop] at hv'
    refine ⟨v', ?_, hr, h6 v (List.mem_of_getElem? hl)⟩
    simp only [World.cell?, hx]
    simpa using hv'
  · cases hl

theorem cells_of {μ : Mu} {σ : AMem} {w : World} (hR : R P μ σ w) {b : Nat} {k : Blk} (hk : μ b = some k) : ∀ (vs : List Value) (o : Nat), (∀ (j : Nat) (x : Value), vs[j]? = some x → ld1 σ b (o + j) = some x) →
    ∃ vs', RVs μ vs vs' ∧ (∀ (j : Nat) (x : Value), vs'[j]? = some x → w.cell? ⟨k.b, k.o + o + j, none⟩ = some x) ∧ (∀ v ∈ vs, v.oneCell' = true)
  | [], o, h => ⟨[], .nil, by simp, by simp⟩
  | v :: vs, o, h => by
    obtain ⟨v', hc, hr, h1⟩ := cell_of hR (h 0 v (by simp)) hk
    obtain ⟨vs', hrs, hcs, hls⟩ := cells_of hR hk vs (o + 1) (fun j x hx => by have := h (j + 1) x (by simpa using hx); rwa [show o + (j + 1) = o + 1 + j by omega] at this)
    refine ⟨v' :: vs', .cons hr hrs, ?_, ?_⟩
    · intro j x hx
      cases j with
      | zero => simp at hx; subst hx; simpa using hc
      | succ j => simp at hx; have := hcs j x hx; rwa [show k.o + (o + 1) + j = k.o + o + (j + 1) by omega] at this
    · intro x hx
      rcases List.mem_cons.1 hx with rfl | hx
      · exact h1
      · exact hls x hx

theorem ldN_ld1 {σ : AMem} {b o n : Nat} {vs : List Value} (h : ldN σ b o n = some vs) : vs.length = n ∧ ∀ (j : Nat) (x : Value), vs[j]? = some x → ld1 σ b (o + j) = some x := by
  unfold ldN at h
  split at h
  · rename_i us T rw hb
    split at h
    · rename_i hle
      cases h
      refine ⟨by simp; omega, fun j x hx => ?_⟩
      rw [List.getElem?_take] at hx
      split at hx
      · rw [List.getElem?_drop] at hx
        simp only [ld1, hb]; exact hx
      · cases hx
    · cases h
  · cases h

theorem run_loadCells_of {μ : Mu} {σ : AMem} {w : World} (hR : R P μ σ w) {b o n : Nat} {k : Blk} (hk : μ b = some k) {vs : List Value} (hn : vs.length = n) (h : ∀ (j : Nat) (x : Value), vs[j]? = some x → ld1 σ b (o + j) = some x) :
    ∃ vs', RVs μ vs vs' ∧ (loadCells ⟨k.b, k.o + o, none⟩ n).run P w = .ok vs'.toArray w ∧ (∀ v ∈ vs, v.oneCell' = true) := by
  obtain ⟨vs', hr, hc, hl⟩ := cells_of hR hk vs o h
  refine ⟨vs', hr, ?_, hl⟩
  have := run_loadCells_list (P := P) w ⟨k.b, k.o + o, none⟩ vs' (fun j v hv => by rw [addr_add]; exact hc j v hv)
  rwa [← hr.length, hn] at this

theorem rv_ptr {μ : Mu} {a : Addr} {v' : Value} (h : RV μ (.pointer (some a)) v') : ∃ k, μ a.block = some k ∧ v' = .pointer (some ⟨k.b, k.o + a.off, none⟩) := by
  cases h; exact ⟨_, ‹_›, rfl⟩
theorem rv_nil {μ : Mu} {v' : Value} (h : RV μ (.pointer none) v') : v' = .pointer none := by cases h; rfl
theorem rv_int {μ : Mu} {k : IntKind} {n : Int} {v' : Value} (h : RV μ (.int k n) v') : v' = .int k n := by cases h; rfl
theorem rv_map {μ : Mu} {r : Nat} {v' : Value} (h : RV μ (.map (some r)) v') : ∃ k, μ r = some k ∧ v' = .map (some k.b) := by cases h; exact ⟨_, ‹_›, rfl⟩
theorem rv_mapNil {μ : Mu} {v' : Value} (h : RV μ (.map none) v') : v' = .map none := by cases h; rfl

theorem map_of {μ : Mu} {σ : AMem} {w : World} (hR : R P μ σ w) {r : Nat} {es : List (Int × Value)} {k : Blk} (hl : ldMap σ r = some es) (hk : μ r = some k) :
    ∃ entries clock, w.heap[k.b]? = some (.map entries clock) ∧ REs μ es entries.toList := by
  unfold ldMap at hl
  split at hl
  · rename_i es' hb
    cases hl
    exact hR.obj _ _ _ hb hk
  · cases hl

theorem run_getMap {w : World} {b : Nat} {entries : Array MapEntry} {clock : Nat} (h : w.heap[b]? = some (.map entries clock)) : (getObj b).run P w = .ok (.map entries clock) w := by
  simp only [getObj, Sem.run, h]

theorem checkKey_int {T : TypeId} {k : IntKind} {a : Int} {t : IntKind} (hT : P.underlying T = some (.int t)) (b : Bool) (n : Nat) (w : World) : (Instr.checkKey b (n + 1) T (.int k a)).run P w = .ok () w := by
  simp [Instr.checkKey, run_underlying hT]

theorem kt64_spec {T : TypeId} (h : kt64 P T = true) : P.underlying T = some (.int .i64) := by
  unfold kt64 at h
  split at h
  · assumption
  · cases h

theorem findNow_spec {μ : Mu} {k : Int} : ∀ (es : List (Int × Value)) (es' : List MapEntry) (i : Nat), REs μ es es' →
    match mapGet es k with
    | some v => ∃ j e, Instr.findNow (.int .i64) (.int .i64 k) es' i = some (some (i + j, e.val)) ∧ es'[j]? = some e ∧ e.key = .int .i64 k ∧ RV μ v e.val ∧ (∀ v2, mapSet k v2 es = es.set j (k, v2)) ∧ mapDel k es = es.eraseIdx j ∧ j < es.length
    | none => Instr.findNow (.int .i64) (.int .i64 k) es' i = some none ∧ (∀ v2, mapSet k v2 es = es ++ [(k, v2)]) ∧ mapDel k es = es
  | [], [], i, .nil => by simp [mapGet, Instr.findNow, mapSet, mapDel]
  | (k', v) :: es, e :: es', i, .cons hk hv ht => by
    by_cases hkk : k = k'
    · subst hkk
      simp only [mapGet, List.find?_cons, BEq.rfl, Option.map_some]
      refine ⟨0, e, ?_, by simp, hk, hv, fun v2 => by simp [mapSet], by simp [mapDel], by simp⟩
      simp [Instr.findNow, hk, Instr.sameNow]
    · have hb : (k == k') = false := by simpa using hkk
      have ih := findNow_spec (k := k) es es' (i + 1) ht
      have hg : mapGet ((k', v) :: es) k = mapGet es k := by simp [mapGet, List.find?_cons, hb]
      have hf : Instr.findNow (.int .i64) (.int .i64 k) (e :: es') i = Instr.findNow (.int .i64) (.int .i64 k) es' (i + 1) := by
        simp [Instr.findNow, hk, Instr.sameNow, hb]
      rw [hg, hf]
      cases hm : mapGet es k with
      | none =>
        rw [hm] at ih
        exact ⟨ih.1, fun v2 => by simp [mapSet, hb, ih.2.1 v2], by simp [mapDel, hb, ih.2.2]⟩
      | some u =>
        rw [hm] at ih
        obtain ⟨j, e', h1, h2, h3, h4, h5, h6, h7⟩ := ih
        exact ⟨j + 1, e', by rw [h1]; congr 3; omega, by simpa using h2, h3, h4, fun v2 => by simp [mapSet, hb, h5 v2], by simp [mapDel, hb, h6], by simp; omega⟩

/-- What reads memory. -/
def LdOk (P : Program) (o : Oper) (e : Operand → Option Value) (σ : AMem) (v : Value) : Prop :=
  ∀ (μ : Mu) (w : World) (f : Operand → Value), R P μ σ w → (∀ x u, e x = some u → RV μ u (f x)) → ∃ v', (execOp f o).run P w = .ok (.value v') w ∧ RV μ v v'

theorem opx_load {T : TypeId} {x : Operand} {call : CallF} {q : Bool} {ty : TypeId} {e : Operand → Option Value} {σ : AMem} {K : Value → AMem → Option ρ} {r : ρ} {o : Oper} (ho : o.op = .load T x)
    (h : opx P call q (.load T x) ty e σ K = some r) : ∃ v, K v σ = some r ∧ LdOk P o e σ v := by
  simp only [opx, Option.bind_eq_some_iff] at h
  obtain ⟨v, hv, h⟩ := h
  split at h
  rotate_left
  · cases h
  simp only [Option.bind_eq_some_iff] at h
  obtain ⟨a, ha, h⟩ := h
  subst ha
  cases hb : isAggB P T with
  | true =>
    rw [hb] at h
    simp only [cond_true] at h
    split at h
    rotate_left
    · cases h
    rename_i hsz
    obtain ⟨vs, hl, hvs, h⟩ := ldKs_spec h
    refine ⟨_, h, fun μ w f hR hf => ?_⟩
    obtain ⟨k, hk, hfx⟩ := rv_ptr (hf x _ hv)
    obtain ⟨vs', hr, hrun, hleaf⟩ := run_loadCells_of hR hk hl hvs
    obtain ⟨d, hd⟩ : ∃ d, P.underlying T = some d := by
      unfold isAggB at hb; cases hq : P.underlying T with
      | none => simp [hq] at hb
      | some d => exact ⟨d, rfl⟩
    refine ⟨.agg vs'.toArray, run_execOp_value (by simp only [execOp, ho] <;> rfl) ?_, .agg (by simpa using hr) (by simpa using hleaf)⟩
    simp only [hfx, Instr.loadAt, Instr.sureAddr, Sem.run_bind, Sem.run_pure, Result.andThen_ok, loadVar, isAgg_run hd, hb, if_true, run_sizeOf hsz, hrun]
  | false =>
    rw [hb] at h
    simp only [cond_false, Option.bind_eq_some_iff] at h
    obtain ⟨d, hd, h⟩ := h
    obtain ⟨u, hu, h⟩ := ldK_spec h
    refine ⟨u, h, fun μ w f hR hf => ?_⟩
    obtain ⟨k, hk, hfx⟩ := rv_ptr (hf x _ hv)
    obtain ⟨v', hc, hr, _⟩ := cell_of hR hu hk
    refine ⟨v', run_execOp_value (by simp only [execOp, ho] <;> rfl) ?_, hr⟩
    simp only [hfx, Instr.loadAt, Instr.sureAddr, Sem.run_bind, Sem.run_pure, Result.andThen_ok, loadVar, isAgg_run hd, hb, Bool.false_eq_true, if_false, run_load, hc]

theorem opx_lookup {T : TypeId} {m i : Operand} {ok : Bool} {call : CallF} {q : Bool} {ty : TypeId} {e : Operand → Option Value} {σ : AMem} {K : Value → AMem → Option ρ} {r : ρ} {o : Oper} (ho : o.op = .lookup T m i ok)
    (h : opx P call q (.lookup T m i ok) ty e σ K = some r) : ∃ v, K v σ = some r ∧ LdOk P o e σ v := by
  simp only [opx, Option.bind_eq_some_iff] at h
  obtain ⟨mv, hm, iv, hi, h⟩ := h
  split at h
  rotate_left
  · cases h
  rename_i kt E rr k hT
  split at h
  rotate_left
  · cases h
  rename_i hkt
  simp only [Option.bind_eq_some_iff] at h
  obtain ⟨es, hes, z, hz, h⟩ := h
  have h := asK_spec h
  refine ⟨_, h, fun μ w f hR hf => ?_⟩
  have hki := kt64_spec hkt
  obtain ⟨hz1, hz2⟩ := run_zeroOf hz w
  have hfi := rv_int (hf i _ hi)
  have key : ∃ entries : Array MapEntry, (f m = .map none ∧ entries = #[] ∨ ∃ kb clock, f m = .map (some kb) ∧ w.heap[kb]? = some (.map entries clock)) ∧ REs μ es entries.toList := by
    cases rr with
    | none =>
      cases hes
      exact ⟨#[], .inl ⟨rv_mapNil (hf m _ hm), rfl⟩, .nil⟩
    | some r' =>
      obtain ⟨kb, hkb, hfm⟩ := rv_map (hf m _ hm)
      obtain ⟨entries, clock, hh, hre⟩ := map_of hR hes hkb
      exact ⟨entries, .inr ⟨kb.b, clock, hfm, hh⟩, hre⟩
  obtain ⟨entries, hrun, hre⟩ := key
  have hfind := findNow_spec (k := k) es entries.toList 0 hre
  have hck := checkKey_int (P := P) (k := .i64) (a := k) hki entries.isEmpty 9999 w
  cases hg : mapGet es k with
  | none =>
    rw [hg] at hfind
    refine ⟨if ok then .tuple #[z, .bool false] else z, run_execOp_value (by simp only [execOp, ho] <;> rfl) ?_, ?_⟩
    · unfold Instr.lookup
      rw [hfi]
      rcases hrun with ⟨hfm, rfl⟩ | ⟨kb, clock, hfm, hh⟩ <;> rw [hfm]
      · simp only [Sem.run_bind, run_underlying hT, Result.andThen_ok, hck, Instr.findKey, run_underlying hki, hfind.1, Sem.run_pure, hz1]
      · simp only [Sem.run_bind, run_underlying hT, Result.andThen_ok, run_getMap hh, hck, Instr.findKey, run_underlying hki, hfind.1, Sem.run_pure, hz1]
    · cases ok
      · exact .constOk hz2
      · exact .tuple (.cons (.constOk hz2) (.cons (.bool _) .nil))
  | some u =>
    rw [hg] at hfind
    obtain ⟨j, e', h1, h2, h3, h4, h5⟩ := hfind
    refine ⟨if ok then .tuple #[e'.val, .bool true] else e'.val, run_execOp_value (by simp only [execOp, ho] <;> rfl) ?_, ?_⟩
    · unfold Instr.lookup
      rw [hfi]
      rcases hrun with ⟨hfm, rfl⟩ | ⟨kb, clock, hfm, hh⟩ <;> rw [hfm]
      · simp only [Sem.run_bind, run_underlying hT, Result.andThen_ok, hck, Instr.findKey, run_underlying hki, h1, Sem.run_pure]
      · simp only [Sem.run_bind, run_underlying hT, Result.andThen_ok, run_getMap hh, hck, Instr.findKey, run_underlying hki, h1, Sem.run_pure]
    · cases ok
      · exact h4
      · exact .tuple (.cons h4 (.cons (.bool _) .nil))

theorem bound_spec {x : Option Value} {d top : Nat} {K : Nat → Option ρ} {r : ρ} (h : bound x d top K = some r) :
    ∃ n, K n = some r ∧ ((x = none ∧ n = d) ∨ ∃ k i, x = some (.int k i) ∧ 0 ≤ i ∧ i ≤ top ∧ n = i.toNat) := by
  unfold bound at h
  split at h
  · exact ⟨d, h, .inl ⟨rfl, rfl⟩⟩
  · split at h
    · rename_i k i hh; exact ⟨_, h, .inr ⟨k, i, rfl, hh.1, hh.2, rfl⟩⟩
    · cases h
  · cases h

theorem evo_spec {e : Operand → Option Value} {x : Option Operand} {K : Option Value → Option ρ} {r : ρ} (h : evo e x K = some r) :
    ∃ v, K v = some r ∧ ((x = none ∧ v = none) ∨ ∃ y u, x = some y ∧ e y = some u ∧ v = some u) := by
  unfold evo at h
  split at h
  · exact ⟨none, h, .inl ⟨rfl, rfl⟩⟩
  · simp only [Option.bind_eq_some_iff] at h
    obtain ⟨u, hu, h⟩ := h
    exact ⟨_, h, .inr ⟨_, u, rfl, hu, rfl⟩⟩

/-- A bound of a slice expression, in the model. -/
theorem run_bound {x : Option Value} {d n top : Nat} (h : (x = none ∧ n = d) ∨ ∃ k i, x = some (.int k i) ∧ 0 ≤ i ∧ i ≤ (top : Int) ∧ n = i.toNat) (code : BoundsCode) (w : World) :
    (match x with | some v => Instr.sliceBound v top code | none => (pure d : Sem Nat)).run P w = .ok n w := by
  rcases h with ⟨rfl, rfl⟩ | ⟨k, i, rfl, h0, h1, rfl⟩
  · rfl
  · exact run_sliceBound w k i top code h0 h1

end Go.AX
