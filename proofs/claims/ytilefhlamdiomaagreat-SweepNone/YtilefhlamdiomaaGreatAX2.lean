/-
  The operations that only compute.
-/
import Derived.Test.YtilefhlamdiomaaGreatAX1
set_option linter.unusedSimpArgs false
set_option linter.unusedVariables false
set_option linter.unusedSectionVars false
namespace Go.AX
open Go

theorem asK_spec {ρ : Type} {k : Kd} {v : Value} {K : Value → Option ρ} {r : ρ} (h : asK k v K = some r) : K v = some r := by
  cases k <;> simp only [asK] at h
  all_goals first
    | exact h
    | (simp only [Option.bind_eq_some_iff] at h
       obtain ⟨n, h1, h2⟩ := h
       cases v <;> simp only [toI, toB, toStr, toP, toS, toM] at h1 <;> first
         | (cases h1; done)
         | (cases h1; exact h2)
         | (split at h1
            · rename_i hk; subst hk; cases h1; exact h2
            · cases h1))

theorem asKs_spec {ρ : Type} : ∀ {ks : List Kd} {l : List Value} {K : List Value → Option ρ} {r : ρ}, asKs ks l K = some r → ks.length ≤ l.length ∧ K (l.take ks.length) = some r
  | [], l, K, r, h => by simpa [asKs] using h
  | k :: ks, [], K, r, h => by simp [asKs] at h
  | k :: ks, v :: vs, K, r, h => by
    simp only [asKs, List.head?_cons, Option.bind_some, List.tail_cons] at h
    have := asKs_spec (asK_spec h)
    simpa using this

theorem asT_spec {ρ : Type} {P : Program} {T : TypeId} {v : Value} {K : Value → Option ρ} {r : ρ} (h : asT P T v K = some r) : K v = some r := by
  unfold asT at h
  split at h
  · cases v <;> simp [toA] at h
    rename_i vs
    obtain ⟨hl, h⟩ := h
    have := (asKs_spec h).2
    rw [← hl, ← Array.length_toList, List.take_length] at this
    simpa using this
  · cases h
  · exact asK_spec h
  · cases h

theorem asTs_spec {ρ : Type} {P : Program} : ∀ {Ts : List TypeId} {l : List Value} {K : List Value → Option ρ} {r : ρ}, asTs P Ts l K = some r → Ts.length ≤ l.length ∧ K (l.take Ts.length) = some r
  | [], l, K, r, h => by simpa [asTs] using h
  | k :: ks, [], K, r, h => by simp [asTs] at h
  | k :: ks, v :: vs, K, r, h => by
    simp only [asTs, List.head?_cons, Option.bind_some, List.tail_cons] at h
    have := asTs_spec (asT_spec h)
    simpa using this

theorem asRes_spec {ρ : Type} {P : Program} {T : TypeId} {v : Value} {K : Value → Option ρ} {r : ρ} (h : asRes P T v K = some r) : K v = some r := by
  unfold asRes at h
  split at h
  · cases v <;> simp [toT] at h
    rename_i ts _ vs
    obtain ⟨hl, h⟩ := h
    have := (asTs_spec h).2
    rw [Array.length_toList, ← hl, ← Array.length_toList, List.take_length] at this
    simpa using this
  · exact asT_spec h

theorem ldK_spec {ρ : Type} {k : Kd} {σ : AMem} {b o : Nat} {K : Value → Option ρ} {r : ρ} (h : ldK k σ b o K = some r) : ∃ v, ld1 σ b o = some v ∧ K v = some r := by
  cases k <;> simp only [ldK, ldI, ldB, ldStr, ldP, ldS, ldM, Option.bind_eq_some_iff] at h
  all_goals first
    | (obtain ⟨v, h1, h2⟩ := h; exact ⟨v, h1, h2⟩)
    | (obtain ⟨n, ⟨v, h1, h3⟩, h2⟩ := h
       refine ⟨v, h1, ?_⟩
       cases v <;> simp only [toI, toB, toStr, toP, toS, toM] at h3 <;> first
         | (cases h3; done)
         | (cases h3; exact h2)
         | (split at h3
            · rename_i hk; subst hk; cases h3; exact h2
            · cases h3))

theorem ldKs_spec {ρ : Type} : ∀ {ks : List Kd} {σ : AMem} {b o : Nat} {K : List Value → Option ρ} {r : ρ}, ldKs ks σ b o K = some r →
    ∃ vs, vs.length = ks.length ∧ (∀ (j : Nat) (x : Value), vs[j]? = some x → ld1 σ b (o + j) = some x) ∧ K vs = some r
  | [], σ, b, o, K, r, h => ⟨[], rfl, by simp, h⟩
  | k :: ks, σ, b, o, K, r, h => by
    simp only [ldKs] at h
    obtain ⟨v, h1, h2⟩ := ldK_spec h
    obtain ⟨vs, hl, hv, hK⟩ := ldKs_spec h2
    refine ⟨v :: vs, by simp [hl], ?_, hK⟩
    intro j x hx
    cases j with
    | zero => simp at hx; subst hx; simpa using h1
    | succ j => simp at hx; have := hv j x hx; rwa [show o + 1 + j = o + (j + 1) by omega] at this

theorem evs_spec {ρ : Type} {e : Operand → Option Value} : ∀ {xs : List Operand} {K : List Value → Option ρ} {r : ρ}, evs e xs K = some r →
    ∃ vs, K vs = some r ∧ ∀ (μ : Mu) (f : Operand → Value), (∀ x u, e x = some u → RV μ u (f x)) → RVs μ vs (xs.map f)
  | [], K, r, h => ⟨[], h, fun _ _ _ => .nil⟩
  | x :: xs, K, r, h => by
    simp only [evs, Option.bind_eq_some_iff] at h
    obtain ⟨v, hv, h⟩ := h
    obtain ⟨vs, hK, hr⟩ := evs_spec h
    exact ⟨v :: vs, hK, fun μ f hf => .cons (hf x v hv) (hr μ f hf)⟩

inductive RPs (μ : Mu) : List (Nat × Value) → List (Nat × Value) → Prop
  | nil : RPs μ [] []
  | cons {i : Nat} {v v' : Value} {vs vs' : List (Nat × Value)} (h : RV μ v v') (t : RPs μ vs vs') : RPs μ ((i, v) :: vs) ((i, v') :: vs')

theorem evp_spec {ρ : Type} {e : Operand → Option Value} : ∀ {xs : List (Nat × Operand)} {K : List (Nat × Value) → Option ρ} {r : ρ}, evp e xs K = some r →
    ∃ vs, K vs = some r ∧ ∀ (μ : Mu) (f : Operand → Value), (∀ x u, e x = some u → RV μ u (f x)) → RPs μ vs (xs.map fun p => (p.1, f p.2))
  | [], K, r, h => ⟨[], h, fun _ _ _ => .nil⟩
  | (i, x) :: xs, K, r, h => by
    simp only [evp, Option.bind_eq_some_iff] at h
    obtain ⟨v, hv, h⟩ := h
    obtain ⟨vs, hK, hr⟩ := evp_spec h
    exact ⟨(i, v) :: vs, hK, fun μ f hf => .cons (hf x v hv) (hr μ f hf)⟩

theorem run_sizeOf {P : Program} {T : TypeId} {s : Nat} (h : szOf P T = some s) (w : World) : (sizeOf T).run P w = .ok s w := by
  unfold szOf at h
  cases hi : P.info? T with
  | none => simp [hi] at h
  | some i =>
    simp [hi] at h
    simp [sizeOf, typeInfo, hi, h]

theorem run_zeroOf {P : Program} {T : TypeId} {z : Value} (h : zerosOf P T = some z) (w : World) : (zeroValue T).run P w = .ok z w ∧ constOk z = true := by
  unfold zerosOf at h
  simp only [Option.bind_eq_some_iff] at h
  obtain ⟨i, hi, y, hy, hz⟩ := h
  split at hz
  · cases hz
    exact ⟨by simp [zeroValue, typeInfo, hi, hy], ‹_›⟩
  · cases hz

theorem isAgg_run {P : Program} {T : TypeId} {d : TypeDesc} (h : P.underlying T = some d) (w : World) : (isAgg T).run P w = .ok (isAggB P T) w := by
  unfold isAggB
  simp only [isAgg, Sem.run_bind, run_underlying h, Result.andThen_ok, h]
  cases d <;> rfl

theorem agg_cells {μ : Mu} {v v' : Value} (h : RV μ v v') (ht : isTup v = false) : RVs μ v.cells.toList v'.cells.toList ∧ (∀ x ∈ v.cells.toList, x.oneCell' = true) ∧ isTup v' = false := by
  cases h <;> first
    | (simp [isTup] at ht; done)
    | (rename_i h hl; exact ⟨h, hl, rfl⟩)
    | (refine ⟨?_, ?_, rfl⟩
       · refine .cons ?_ .nil
         first
           | exact .bool _ | exact .int _ _ | exact .string _ | exact .ptrNil | exact .sliceNil | exact .mapNil | exact .nilFunc | exact .nilIface
           | (constructor <;> assumption)
       · intro x hx; simp [Value.cells] at hx; subst hx; rfl)

/-- What only computes, computes the same on related operands, in whatever world. -/
def PureOk (P : Program) (o : Oper) (e : Operand → Option Value) (v : Value) : Prop :=
  ∀ (μ : Mu) (w : World) (f : Operand → Value), (∀ x u, e x = some u → RV μ u (f x)) → ∃ v', (execOp f o).run P w = .ok (.value v') w ∧ RV μ v v'

section
variable {ρ : Type} {P : Program} [Quiet]

theorem binI_spec {op : BinOp} {k : IntKind} {a b : Int} {K : Value → Option ρ} {r : ρ} (h : binI op k a b K = some r) :
    ∃ v, K v = some r ∧ leafOk v = true ∧ ∀ (w : World) T, (binOp op T (.int k a) (.int k b)).run P w = .ok v w := by
  cases op <;> simp only [binI] at h
  case quo =>
    split at h
    · cases h
    · exact ⟨_, h, rfl, fun w T => by simp [binOp, Op.intDiv, *]⟩
  case rem =>
    split at h
    · cases h
    · exact ⟨_, h, rfl, fun w T => by simp [binOp, Op.intDiv, *]⟩
  all_goals first
    | (cases h; done)
    | exact ⟨_, h, rfl, fun w T => by simp [binOp, Op.intArith, Op.intBits, Op.intCmp]⟩

theorem shiftI_spec {op : BinOp} {k k' : IntKind} {a b : Int} {K : Value → Option ρ} {r : ρ} (h : shiftI op k a b K = some r) :
    ∃ v, K v = some r ∧ leafOk v = true ∧ ∀ (w : World) T, (binOp op T (.int k a) (.int k' b)).run P w = .ok v w := by
  unfold shiftI at h
  split at h
  · cases h
  · cases op <;> simp only at h
    all_goals first
      | (cases h; done)
      | exact ⟨_, h, rfl, fun w T => by simp [binOp, Op.shift, *]⟩

theorem eqAt_spec {T : TypeId} {a b : Value} {t : Bool} (h : eqAt P T a b = some t) {μ : Mu} {a' b' : Value} (ha : RV μ a a') (hb : RV μ b b') (n : Nat) (w : World) :
    (Op.equalIn (n + 1) T a' b').run P w = .ok t w := by
  unfold eqAt at h
  split at h
  · rename_i hd
    cases ha; cases hb
    split at h
    · cases h; simp [Op.equalIn, run_underlying hd, *]
    · cases h
  · rename_i hd
    cases ha; cases hb; cases h
    simp [Op.equalIn, run_underlying hd]
  · rename_i hd
    cases ha; cases hb; cases h
    simp [Op.equalIn, run_underlying hd]
  · cases h

theorem eqAt_type {T : TypeId} {a b : Value} {t : Bool} (h : eqAt P T a b = some t) : ∃ d, P.underlying T = some d := by
  unfold eqAt at h
  split at h <;> first | (cases h; done) | exact ⟨_, ‹_›⟩

theorem run_part {T : TypeId} {d : TypeDesc} (hd : P.underlying T = some d) (ha : isAggB P T = false) {xs : Array Value} {i : Nat} {v : Value} (hv : xs.toList[i]? = some v) (w : World) :
    (part T xs i).run P w = .ok v w := by
  have : xs[i]? = some v := by simpa using hv
  simp [part, isAgg_run hd, ha, this]

theorem eqFs_spec {μ : Mu} (n : Nat) (w : World) (xs ys : Array Value) : ∀ (fs : List Field) (as bs as' bs' : List Value) (i : Nat) (t : Bool), eqFs P fs as bs = some t → flatFrom P i fs = true →
    RVs μ as as' → RVs μ bs bs' → xs.toList.drop i = as' → ys.toList.drop i = bs' → (Op.eqFields (n + 1) xs ys fs).run P w = .ok t w
  | [], [], [], as', bs', i, t, h, hf, ha, hb, hx, hy => by
    simp [eqFs] at h; subst h; simp [Op.eqFields]
  | f :: fs, a :: as, b :: bs, a' :: as', b' :: bs', i, t, h, hf, .cons ha1 ha2, .cons hb1 hb2, hx, hy => by
    simp only [flatFrom, Bool.and_eq_true, bne_iff_ne, ne_eq, beq_iff_eq, Bool.not_eq_true'] at hf
    obtain ⟨⟨⟨hn, ho⟩, hg⟩, hf⟩ := hf
    have hxa : xs.toList[i]? = some a' := by have := congrArg (·[0]?) hx; simpa using this
    have hyb : ys.toList[i]? = some b' := by have := congrArg (·[0]?) hy; simpa using this
    have hx' : xs.toList.drop (i + 1) = as' := by rw [← List.drop_drop, hx]; rfl
    have hy' : ys.toList.drop (i + 1) = bs' := by rw [← List.drop_drop, hy]; rfl
    have key : ∃ t1, eqAt P f.type a b = some t1 ∧ (t1 = true → eqFs P fs as bs = some t) ∧ (t1 = false → t = false) := by
      cases fs with
      | nil =>
        cases as with
        | nil =>
          cases bs with
          | nil => refine ⟨t, by simpa [eqFs] using h, fun e => by subst e; rfl, fun e => e⟩
          | cons _ _ => 
            simp only [eqFs, Option.bind_eq_some_iff] at h
            obtain ⟨t1, h1, h2⟩ := h
            exact ⟨t1, h1, by rintro rfl; first | (simp at h2; done) | simpa using h2, by rintro rfl; simp at h2; exact h2⟩
        | cons _ _ =>
            simp only [eqFs, Option.bind_eq_some_iff] at h
            obtain ⟨t1, h1, h2⟩ := h
            exact ⟨t1, h1, by rintro rfl; first | (simp at h2; done) | simpa using h2, by rintro rfl; simp at h2; exact h2⟩
      | cons _ _ =>
            simp only [eqFs, Option.bind_eq_some_iff] at h
            obtain ⟨t1, h1, h2⟩ := h
            exact ⟨t1, h1, by rintro rfl; first | (simp at h2; done) | simpa using h2, by rintro rfl; simp at h2; exact h2⟩
    obtain ⟨t1, h1, h2, h3⟩ := key
    obtain ⟨d, hd⟩ := eqAt_type h1
    simp only [Op.eqFields, hn, ne_eq, not_false_eq_true, if_true, Sem.run_bind, ho, run_part hd hg hxa, run_part hd hg hyb, Result.andThen_ok, eqAt_spec h1 ha1 hb1]
    cases t1
    · simp [h3 rfl]
    · simp only [Bool.not_true, Bool.false_eq_true, if_false]
      exact eqFs_spec n w xs ys fs as bs as' bs' (i + 1) t (h2 rfl) hf ha2 hb2 hx' hy'
  | _ :: _, [], _, _, _, _, _, h, _, _, _, _, _ => by simp [eqFs] at h
  | _ :: _, _ :: _, [], _, _, _, _, h, _, _, _, _, _ => by simp [eqFs] at h

theorem equalIn_nil_ptr {T e : TypeId} (hd : P.underlying T = some (.pointer e)) (n : Nat) (y : Option Addr) (w : World) : (Op.equalIn (n + 1) T (.pointer none) (.pointer y)).run P w = .ok y.isNone w := by
  simp [Op.equalIn, run_underlying hd]
theorem equalIn_ptr_nil {T e : TypeId} (hd : P.underlying T = some (.pointer e)) (n : Nat) (y : Option Addr) (w : World) : (Op.equalIn (n + 1) T (.pointer y) (.pointer none)).run P w = .ok y.isNone w := by
  cases y <;> simp [Op.equalIn, run_underlying hd]

theorem equalIn_nil_slice {T e : TypeId} (hd : P.underlying T = some (.slice e)) (n : Nat) (y : Option Addr) (l c l' c' : Nat) (w : World) : (Op.equalIn (n + 1) T (.slice none l c) (.slice y l' c')).run P w = .ok y.isNone w := by
  simp [Op.equalIn, run_underlying hd]
theorem equalIn_slice_nil {T e : TypeId} (hd : P.underlying T = some (.slice e)) (n : Nat) (y : Option Addr) (l c l' c' : Nat) (w : World) : (Op.equalIn (n + 1) T (.slice y l c) (.slice none l' c')).run P w = .ok y.isNone w := by
  cases y <;> simp [Op.equalIn, run_underlying hd]

theorem eqA_spec {T : TypeId} {a b : Value} {t : Bool} (h : eqA P T a b = some t) {μ : Mu} {a' b' : Value} (ha : RV μ a a') (hb : RV μ b b') (w : World) (x y : Operand) (op : BinOp) :
    (eqGuard op T x y a' b').run P w = .ok () w ∧ (Op.equal T a' b').run P w = .ok t w ∧ (∀ op, binOp op T a' b' = match op with
      | .eql => do pure (.bool (← Op.equal T a' b'))
      | .neq => do pure (.bool (!(← Op.equal T a' b')))
      | op => binOp op T a' b') := by
  unfold eqA at h
  split at h
  · split at h
    · rename_i hd
      cases ha; cases hb; cases h
      exact ⟨by cases op <;> simp [eqGuard], run_equalIn_bool' w 9999 T _ _ hd, fun op => by cases op <;> simp only [binOp]⟩
    · cases h
  · split at h
    · rename_i hd
      cases ha; cases h
      cases hb <;>
        exact ⟨by cases op <;> simp [eqGuard], equalIn_nil_ptr hd 9999 _ w, fun op => by cases op <;> simp only [binOp]⟩
    · cases h
  · split at h
    · rename_i hd
      cases hb; cases h
      cases ha <;>
        exact ⟨by cases op <;> simp [eqGuard], equalIn_ptr_nil hd 9999 _ w, fun op => by cases op <;> simp only [binOp]⟩
    · cases h
  · split at h
    · rename_i hd
      cases ha; cases h
      cases hb <;>
        exact ⟨by cases op <;> simp [eqGuard], equalIn_nil_slice hd 9999 _ _ _ _ _ w, fun op => by cases op <;> simp only [binOp]⟩
    · cases h
  · split at h
    · rename_i hd
      cases hb; cases h
      cases ha <;>
        exact ⟨by cases op <;> simp [eqGuard], equalIn_slice_nil hd 9999 _ _ _ _ _ w, fun op => by cases op <;> simp only [binOp]⟩
    · cases h
  · split at h
    · rename_i fs hd
      cases hc : (flatFrom P 0 fs.toList && !P.stoodInHeld T && !P.eqGuardType P.depth T) with
      | false => rw [hc] at h; cases h
      | true =>
        rw [hc] at h
        simp only [cond_true] at h
        simp only [Bool.and_eq_true, Bool.not_eq_true'] at hc
        obtain ⟨⟨hf, hs⟩, hg⟩ := hc
        have hfo : P.fieldsOf T = fs := by simp [Program.fieldsOf, hd]
        cases ha with
        | agg ha _ =>
          cases hb with
          | agg hb _ =>
            refine ⟨run_eqGuard_agg w op T x y _ _ hg, ?_, fun op => by cases op <;> simp only [binOp]⟩
            show (Op.equalIn (9999 + 1) T _ _).run P w = _
            rw [run_equalIn_struct w 9999 T _ _ (by rw [hd, hfo]) hs, hfo]
            exact eqFs_spec 9998 w _ _ fs.toList _ _ _ _ 0 t h hf ha hb (by simp) (by simp)
    · cases h
  · cases h

end
end Go.AX
