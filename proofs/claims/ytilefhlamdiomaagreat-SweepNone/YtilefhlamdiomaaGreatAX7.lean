/-
  All that reads; new blocks.
-/
import Derived.Test.YtilefhlamdiomaaGreatAX6
set_option linter.unusedSimpArgs false
set_option linter.unusedVariables false
set_option linter.unusedSectionVars false
namespace Go.AX
open Go
variable {ρ : Type} {P : Program} [Quiet]

theorem opx_lenMap {c : Call} {call : CallF} {q : Bool} {ty : TypeId} {e : Operand → Option Value} {σ : AMem} {K : Value → AMem → Option ρ} {r : ρ} {o : Oper} (ho : o.op = .call c) (hb : c.callee = .builtin .len)
    (h : opx P call q (.call c) ty e σ K = some r) : ∃ v, K v σ = some r ∧ LdOk P o e σ v := by
  simp only [opx, hb] at h
  obtain ⟨vs, h1, hvs⟩ := evs_spec h
  clear h
  simp only [builtinA, lenA] at h1
  split at h1
  rotate_left
  · cases h1
  rename_i t v hts
  split at h1
  · rename_i n _ hd
    refine ⟨_, h1, fun μ w f hR hf => ?_⟩
    obtain ⟨cs, hex⟩ := exec_builtin (f := f) ho hb
    have hr := hvs μ f hf
    generalize c.args.toList.map f = l at hr hex
    cases hr with
    | cons h1 h2 =>
      cases h2
      refine ⟨_, ?_, .int _ _⟩
      rw [hex, toList_eq hts]
      cases h1 <;> simp [builtin, Builtin.len_, run_underlying hd, goInt]
  · rename_i s hd
    refine ⟨_, h1, fun μ w f hR hf => ?_⟩
    obtain ⟨cs, hex⟩ := exec_builtin (f := f) ho hb
    have hr := hvs μ f hf
    generalize c.args.toList.map f = l at hr hex
    cases hr with
    | cons h1 h2 =>
      cases h2
      refine ⟨_, ?_, .int _ _⟩
      rw [hex, toList_eq hts]
      cases h1 <;> simp [builtin, Builtin.len_, run_underlying hd, goInt]
  · rename_i rr hd
    simp only [Option.bind_eq_some_iff] at h1
    obtain ⟨es, hes, h1⟩ := h1
    refine ⟨_, h1, fun μ w f hR hf => ?_⟩
    obtain ⟨cs, hex⟩ := exec_builtin (f := f) ho hb
    have hr := hvs μ f hf
    generalize c.args.toList.map f = l at hr hex
    clear h1
    cases hr with
    | cons h1 h2 =>
      cases h2
      refine ⟨_, ?_, .int _ _⟩
      rw [hex, toList_eq hts]
      cases rr with
      | none =>
        cases hes
        rw [rv_mapNil h1]
        simp [builtin, Builtin.len_, run_underlying hd, goInt]
      | some r' =>
        obtain ⟨kb, hkb, hfm⟩ := rv_map h1
        obtain ⟨entries, clock, hh, hre⟩ := map_of hR hes hkb
        have hlen : es.length = entries.size := by
          have : ∀ (a : List (Int × Value)) (b : List MapEntry), REs μ a b → a.length = b.length := by
            intro a b hab
            induction hab with
            | nil => rfl
            | cons _ _ _ ih => simp [ih]
          simpa using this _ _ hre
        rw [hfm]
        simp [builtin, Builtin.len_, run_underlying hd, goInt, run_getMap hh, hlen]
  · cases h1

theorem opx_ld {o : Oper} {call : CallF} {q : Bool} {e : Operand → Option Value} {σ : AMem} {K : Value → AMem → Option ρ} {r : ρ} (hc : cls0 P o = .ld)
    (h : opx P call q o.op o.type e σ K = some r) : ∃ v, K v σ = some r ∧ LdOk P o e σ v := by
  cases ho : o.op
  case load => rw [ho] at h; exact opx_load ho h
  case lookup => rw [ho] at h; exact opx_lookup ho h
  case slice => rw [ho] at h; exact opx_slice ho h
  case call c =>
    rw [ho] at h
    simp only [cls0, ho] at hc
    split at hc
    · rename_i b hb
      cases b <;> simp only [clsB] at hc <;> first
        | (cases hc; done)
        | skip
      exact opx_lenMap ho hb h
    · cases hc
  all_goals (simp [cls0, ho] at hc)

/-- What an operation that may write comes to. -/
def MemOk (P : Program) (μ : Mu) (σ : AMem) (w : World) (v : Value) (σ' : AMem) (res : Result Next) : Prop :=
  ∃ μ' v' w', (res = .ok (.value v') w' ∨ (res = .ok .skip w' ∧ v' = undef)) ∧ RV μ' v v' ∧ R P μ' σ' w' ∧ Step μ σ w μ' σ' w'

theorem blk_cells {μ : Mu} {vs : List Value} {c : Array Value} {T : TypeId} {s b : Nat} (hs : s = P.cellsOf T) (hr : RVs μ vs c.toList) (hl : ∀ v ∈ vs, v.oneCell' = true) :
    ObjR P μ (.cells vs T true) ⟨b, 0, s, vs.length, vs.length⟩ (some (.cells c T)) := by
  have hlen := hr.length
  refine ⟨c, T, (0, 0), rfl, rfl, Nat.le_refl _, by simp at hlen ⊢; omega, hs, fun _ => rfl, hl, ?_⟩
  simp only [List.drop_zero]
  rw [List.take_of_length_le (by omega)]
  exact hr

/-- A new row of cells. -/
theorem memOk_new {μ : Mu} {σ : AMem} {w : World} (hR : R P μ σ w) (hf : Fresh μ σ.length (σ.length + 1)) {vs : List Value} {c : Array Value} {T : TypeId} (hr : RVs μ vs c.toList) (hl : ∀ v ∈ vs, v.oneCell' = true)
    {v v' : Value} (hv : ∀ μ' : Mu, μ' σ.length = some ⟨w.heap.size, 0, P.cellsOf T, vs.length, vs.length⟩ → RV μ' v v') :
    MemOk P μ σ w v (σ ++ [AObj.cells vs T true]) (.ok (.value v') (w.alloc (.cells c T))) := by
  refine ⟨μ.put σ.length ⟨w.heap.size, 0, P.cellsOf T, vs.length, vs.length⟩, v', _, .inl rfl, hv _ (Mu.put_same _ _ _), ?_, Step.alloc rfl⟩
  exact hR.alloc (hf _ (Nat.le_refl _) (Nat.lt_succ_self _)) rfl (blk_cells rfl hr hl)

/-- An allocation. -/
def AlOk (P : Program) (o : Oper) (e : Operand → Option Value) (σ : AMem) (v : Value) (σ' : AMem) : Prop :=
  ∀ (μ : Mu) (w : World) (f : Operand → Value), R P μ σ w → Fresh μ σ.length σ'.length → (∀ x u, e x = some u → RV μ u (f x)) → MemOk P μ σ w v σ' ((execOp f o).run P w)

theorem zeroCells_rep (z : Array Value) (n : Nat) (hz : 0 < z.size) : ((Array.range (n * z.size)).map (fun x => z[x % z.size]!)).toList = rep n z.toList := by
  apply List.ext_getElem?
  intro i
  simp only [Array.toList_map, Array.toList_range, List.getElem?_map, List.getElem?_range]
  induction n generalizing i with
  | zero => simp [AX.rep]
  | succ n ih =>
    have e : AX.rep (n + 1) z.toList = z.toList ++ AX.rep n z.toList := by simp [AX.rep, List.replicate_succ]
    rw [e]
    by_cases hi : i < z.size
    · rw [List.getElem?_append_left (by simpa using hi)]
      have : i < (n + 1) * z.size := by rw [Nat.succ_mul]; omega
      simp [List.getElem?_range, this, Nat.mod_eq_of_lt hi, hi]
    · rw [List.getElem?_append_right (by simpa using Nat.le_of_not_lt hi)]
      simp only [Array.length_toList]
      rw [← ih (i - z.size)]
      have hm : i % z.size = (i - z.size) % z.size := by
        rw [Nat.mod_eq_sub_mod (Nat.le_of_not_lt hi)]
      by_cases hlt : i < (n + 1) * z.size
      · have : i - z.size < n * z.size := by rw [Nat.succ_mul] at hlt; omega
        simp [List.getElem?_range, hlt, this, hm]
      · have : ¬ i - z.size < n * z.size := by rw [Nat.succ_mul] at hlt; omega
        simp [List.getElem?_range, hlt, this]

theorem opx_al {o : Oper} {call : CallF} {q : Bool} {e : Operand → Option Value} {σ : AMem} {K : Value → AMem → Option ρ} {r : ρ} (hc : cls0 P o = .al) (hnc : ∀ c, o.op ≠ .call c)
    (h : opx P call q o.op o.type e σ K = some r) : ∃ v x, K v (σ ++ [x]) = some r ∧ AlOk P o e σ v (σ ++ [x]) := by
  cases ho : o.op
  case call c => exact absurd ho (hnc c)
  case box T x =>
    rw [ho] at h
    simp only [opx, Option.bind_eq_some_iff] at h
    obtain ⟨v, hv, h⟩ := h
    cases ht : isTup v with
    | true => rw [ht] at h; cases h
    | false =>
      rw [ht] at h
      simp only [cond_false] at h
      refine ⟨_, _, h, fun μ w f hR hfr hf => ?_⟩
      obtain ⟨h1, h2, h3⟩ := agg_cells (hf x v hv) ht
      have hrun : (execOp f o).run P w = .ok (.value (.pointer (some ⟨w.heap.size, 0, none⟩))) (w.alloc (.cells (f x).cells T)) := by
        refine run_execOp_value (by simp only [execOp, ho] <;> rfl) ?_
        simp [Instr.box, newVar, newRow]
      rw [hrun]
      exact memOk_new hR (by simpa using hfr) h1 h2 fun μ' hμ => RV.ptr (a := ⟨σ.length, 0, none⟩) hμ rfl
  case alloc T =>
    rw [ho] at h
    simp only [opx, Option.bind_eq_some_iff] at h
    obtain ⟨z, hz, h⟩ := h
    split at h
    · rename_i htz
      refine ⟨_, _, h, fun μ w f hR hfr hf => ?_⟩
      obtain ⟨hz1, hz2⟩ := run_zeroOf hz w
      obtain ⟨h1, h2, h3⟩ := agg_cells (RV.constOk (μ := μ) hz2) htz
      have hrun : (execOp f o).run P w = .ok (.value (.pointer (some ⟨w.heap.size, 0, none⟩))) (w.alloc (.cells z.cells T)) := by
        refine run_execOp_value (by simp only [execOp, ho] <;> rfl) ?_
        simp [Instr.alloc, newVar, newRow, hz1]
      rw [hrun]
      exact memOk_new hR (by simpa using hfr) h1 h2 fun μ' hμ => RV.ptr (a := ⟨σ.length, 0, none⟩) hμ rfl
    · cases h
  case buildSlice T n parts =>
    rw [ho] at h
    simp only [opx, Option.bind_eq_some_iff] at h
    obtain ⟨E, hE, h⟩ := h
    cases hn0 : (n == 0) with
    | true =>
      have hn : n = 0 := by simpa using hn0
      subst hn
      rw [hn0] at h
      simp only [cond_true] at h
      cases hpe : parts.toList.isEmpty with
      | false => rw [hpe] at h; cases h
      | true =>
      rw [hpe] at h
      simp only [cond_true, Option.bind_eq_some_iff] at h
      obtain ⟨s, hsz, h⟩ := h
      have hp0 : parts = #[] := by
        apply Array.toList_inj.1; simpa using hpe
      subst hp0
      refine ⟨_, _, h, fun μ w f hR hfr hf => ?_⟩
      have hT := elemOfS_spec hE
      have hrun : (execOp f o).run P w = .ok (.value (.slice (some ⟨w.heap.size, 0, none⟩) 0 0)) (w.alloc (.cells #[] E)) := by
        refine run_execOp_value (by simp only [execOp, ho] <;> rfl) ?_
        simp [Instr.buildSlice, run_underlying hT, run_sizeOf hsz, Instr.fill, newRow, run_newObj_alloc]
        have e : Array.map (fun _ => (default : Value)) (Array.range 0) = #[] := by
          apply Array.eq_empty_of_size_eq_zero; simp
        rw [e]
      rw [hrun]
      refine memOk_new hR (by simpa using hfr) .nil (by simp) fun μ' hμ => ?_
      exact RV.sliceZ (a := ⟨σ.length, 0, some 0⟩) (z := 0) _ rfl
    | false =>
    rw [hn0] at h
    simp only [cond_false, Option.bind_eq_some_iff] at h
    obtain ⟨z, hz, h⟩ := h
    obtain ⟨ps, h1, hps⟩ := evp_spec h
    clear h
    split at h1
    · rename_i hh
      obtain ⟨hsz, hn, hz0, hle, htz⟩ := hh
      simp only [Option.bind_eq_some_iff] at h1
      obtain ⟨cs, hcs, h⟩ := h1
      refine ⟨_, _, h, fun μ w f hR hfr hf => ?_⟩
      obtain ⟨hz1, hz2⟩ := run_zeroOf hz w
      obtain ⟨g1, g2, g3⟩ := agg_cells (RV.constOk (μ := μ) hz2) htz
      have hT := elemOfS_spec hE
      have hrep := zeroCells_rep z.cells n hz0
      obtain ⟨out', k1, k2, k3, k4⟩ := elemsA_fill ps _ _ ((Array.range (n * z.cells.size)).map (fun x => z.cells[x % z.cells.size]!)) cs (hps μ f hf) (by rw [hrep]; exact g1.rep n)
        (by intro v hv; simp only [AX.rep, List.mem_flatten, List.mem_replicate] at hv; obtain ⟨l, ⟨_, rfl⟩, hvl⟩ := hv; exact g2 v hvl) hcs
      have hm : (parts.map fun x => (x.1, f x.2)).toList = parts.toList.map fun p => (p.1, f p.2) := by simp
      have hrun : (execOp f o).run P w = .ok (.value (.slice (some ⟨w.heap.size, 0, none⟩) n n)) (w.alloc (.cells out' E)) := by
        refine run_execOp_value (by simp only [execOp, ho] <;> rfl) ?_
        have hne : ¬ n * z.cells.size = 0 := by
          have := Nat.mul_pos hn hz0; omega
        simp only [Instr.buildSlice, Sem.run_bind, run_underlying hT, Result.andThen_ok, run_sizeOf hsz, Sem.run_ite, if_neg (Nat.not_lt.2 hle), if_neg hne, hz1, Sem.run_pure, hm, k1, newRow, run_newObj_alloc]
      rw [hrun]
      have hcl : cs.length = n * z.cells.size := by
        rw [k4, ← hrep]; simp
      refine memOk_new hR (by simpa using hfr) k2 k3 fun μ' hμ => ?_
      refine RV.slice (a := ⟨σ.length, 0, none⟩) hμ rfl (Nat.le_refl _) (Nat.le_refl _) ?_
      simp only [cellsOf_sz hsz, hcl]; omega
    · cases h1
  case makeMap T rs =>
    rw [ho] at h
    cases rs with
    | some x => simp only [opx] at h; cases h
    | none =>
      simp only [opx] at h
      refine ⟨_, _, h, fun μ w f hR hfr hf => ?_⟩
      have hrun : (execOp f o).run P w = .ok (.value (.map (some w.heap.size))) (w.alloc (.map #[] 0)) := by
        refine run_execOp_value (by simp only [execOp, ho] <;> rfl) ?_
        simp [Instr.makeMap]
      rw [hrun]
      refine ⟨μ.put σ.length ⟨w.heap.size, 0, 0, 0, 0⟩, _, _, .inl rfl, RV.map (k := ⟨w.heap.size, 0, 0, 0, 0⟩) (Mu.put_same _ _ _), ?_, Step.alloc rfl⟩
      exact hR.alloc (hfr _ (Nat.le_refl _) (by simp)) rfl ⟨#[], 0, rfl, .nil⟩
  case makeSlice T l c =>
    rw [ho] at h
    simp only [opx, Option.bind_eq_some_iff] at h
    obtain ⟨E, hE, lv, hl, cv, hcv, h⟩ := h
    split at h
    · rename_i l' c'
      simp only [Option.bind_eq_some_iff] at h
      obtain ⟨by_, hby, h⟩ := h
      split at h
      · rename_i hh
        obtain ⟨h0, hlc, hcb, hc40⟩ := hh
        simp only [Option.bind_eq_some_iff] at h
        obtain ⟨z, hz, h⟩ := h
        split at h
        · rename_i hh
          obtain ⟨hsz, hz0, htz⟩ := hh
          refine ⟨_, _, h, fun μ w f hR hfr hf => ?_⟩
          obtain ⟨hz1, hz2⟩ := run_zeroOf hz w
          obtain ⟨g1, g2, g3⟩ := agg_cells (RV.constOk (μ := μ) hz2) htz
          have hT := elemOfS_spec hE
          have hfl := rv_int (hf l _ hl)
          have hfc := rv_int (hf c _ hcv)
          have hby' : ∃ i, P.info? E = some i ∧ i.bytes = by_ := by unfold bytesOf at hby; simpa using hby
          obtain ⟨i, hi, hib⟩ := hby'
          have wl : IntKind.i64.wrap l' = l' := IntWalk.i64_in _ (by omega)
          have wc : IntKind.i64.wrap c' = c' := IntWalk.i64_in _ (by omega)
          have hrun : (execOp f o).run P w = .ok (.value (.slice (some ⟨w.heap.size, 0, none⟩) l'.toNat c'.toNat)) (w.alloc (.cells ((Array.range (c'.toNat * z.cells.size)).map (fun x => z.cells[x % z.cells.size]!)) E)) := by
            refine run_execOp_value (by simp only [execOp, ho] <;> rfl) ?_
            have hty : (typeInfo E).run P w = .ok i w := by simp [typeInfo, hi]
            have hbc : ¬ ((by_ : Int) * c' > 2 ^ 48) := by
              rw [Int.mul_comm]; omega
            simp only [Instr.makeSlice, Sem.run_bind, run_underlying hT, Result.andThen_ok, hfl, hfc, asInt, asIntOf, Sem.run_pure, hty, wl, wc, hib]
            have hcond : ((decide (c' < 0) || decide ((by_ : Int) * c' > 2 ^ 48)) || decide (l' < 0) || decide (l' > c')) = false := by
              simp only [Bool.or_eq_false_iff, decide_eq_false_iff_not]; omega
            rw [if_neg (by rw [hcond]; simp)]
            simp only [Sem.run_bind, run_askRoom, Result.andThen_ok, run_sizeOf hsz]
            by_cases hc0 : c'.toNat * z.cells.size = 0
            · simp only [hc0, if_true, Sem.run_pure, Result.andThen_ok, newRow, Sem.run_bind, run_newObj_alloc, show Array.range 0 = (#[] : Array Nat) from rfl, Array.map_empty]
            · simp only [hc0, if_false, Sem.run_bind, hz1, Sem.run_pure, Result.andThen_ok, newRow, run_newObj_alloc]
          rw [hrun]
          have hrep := zeroCells_rep z.cells c'.toNat hz0
          have hlen : (AX.rep c'.toNat z.cells.toList).length = c'.toNat * z.cells.size := by rw [← hrep]; simp
          refine memOk_new hR (by simpa using hfr) (by rw [hrep]; exact g1.rep _) ?_ fun μ' hμ => ?_
          · intro v hv; simp only [AX.rep, List.mem_flatten, List.mem_replicate] at hv; obtain ⟨l, ⟨_, rfl⟩, hvl⟩ := hv; exact g2 v hvl
          · refine RV.slice (a := ⟨σ.length, 0, none⟩) hμ rfl (by omega) (Nat.le_refl _) ?_
            simp only [cellsOf_sz hsz, hlen]; omega
        · cases h
      · cases h
    · cases h
  all_goals (simp [cls0, ho] at hc)

end Go.AX
