/-
  The operations that only compute: one by one.
-/
import Derived.Test.YtilefhlamdiomaaGreatAX2
set_option linter.unusedSimpArgs false
set_option linter.unusedVariables false
set_option linter.unusedSectionVars false
namespace Go.AX
open Go
variable {ρ : Type} {P : Program} [Quiet]

theorem binA_spec {op : BinOp} {T : TypeId} {a b : Value} {K : Value → Option ρ} {r : ρ} (h : binA P op T a b K = some r) :
    ∃ v, K v = some r ∧ leafOk v = true ∧ ∀ (μ : Mu) (a' b' : Value), RV μ a a' → RV μ b b' → ∀ (w : World) (x y : Operand),
      (do eqGuard op T x y a' b'; binOp op T a' b' : Sem Value).run P w = .ok v w := by
  unfold binA at h
  split at h
  · rename_i k m k' n
    have hg : ∀ (w : World) (x y : Operand), (eqGuard op T x y (.int k m) (.int k' n)).run P w = .ok () w := fun w x y => by cases op <;> simp [eqGuard]
    split at h
    · obtain ⟨v, h1, h2, h3⟩ := shiftI_spec (P := P) (k' := k') h
      refine ⟨v, h1, h2, fun μ a' b' ha hb w x y => ?_⟩
      cases ha; cases hb
      simp only [Sem.run_bind, hg, Result.andThen_ok]
      exact h3 w T
    · obtain ⟨v, h1, h2, h3⟩ := shiftI_spec (P := P) (k' := k') h
      refine ⟨v, h1, h2, fun μ a' b' ha hb w x y => ?_⟩
      cases ha; cases hb
      simp only [Sem.run_bind, hg, Result.andThen_ok]
      exact h3 w T
    · split at h
      · rename_i hk; subst hk
        obtain ⟨v, h1, h2, h3⟩ := binI_spec (P := P) h
        refine ⟨v, h1, h2, fun μ a' b' ha hb w x y => ?_⟩
        cases ha; cases hb
        simp only [Sem.run_bind, hg, Result.andThen_ok]
        exact h3 w T
      · cases h
  · split at h
    · simp only [Option.bind_eq_some_iff] at h
      obtain ⟨t, h1, h2⟩ := h
      refine ⟨_, h2, rfl, fun μ a' b' ha hb w x y => ?_⟩
      obtain ⟨g1, g2, g3⟩ := eqA_spec h1 ha hb w x y .eql
      simp only [Sem.run_bind, g1, Result.andThen_ok, g3, g2, Sem.run_pure]
    · simp only [Option.bind_eq_some_iff] at h
      obtain ⟨t, h1, h2⟩ := h
      refine ⟨_, h2, rfl, fun μ a' b' ha hb w x y => ?_⟩
      obtain ⟨g1, g2, g3⟩ := eqA_spec h1 ha hb w x y .neq
      simp only [Sem.run_bind, g1, Result.andThen_ok, g3, g2, Sem.run_pure]
    · cases h

theorem unA_spec {op : UnOp} {a : Value} {K : Value → Option ρ} {r : ρ} (h : unA op a K = some r) :
    ∃ v, K v = some r ∧ leafOk v = true ∧ ∀ (μ : Mu) (a' : Value), RV μ a a' → ∀ (w : World), (Op.unary op a').run P w = .ok v w := by
  unfold unA at h
  split at h
  · exact ⟨_, h, rfl, fun μ a' ha w => by cases ha; simp [Op.unary]⟩
  · exact ⟨_, h, rfl, fun μ a' ha w => by cases ha; simp [Op.unary, Op.intArith]⟩
  · cases h

theorem fieldOf_spec {T : TypeId} {f : Nat} {ot : Nat × TypeId} (h : fieldOf P T f = some ot) :
    ∃ (fs : Array Field) (x : Field), P.underlying T = some (.struct fs) ∧ fs[f]? = some x ∧ x.offset = ot.1 ∧ x.type = ot.2 := by
  unfold fieldOf at h
  split at h
  · rename_i fs hd
    split at h
    · rename_i x hx
      cases h
      exact ⟨fs, x, hd, by simpa using hx, rfl, rfl⟩
    · cases h
  · cases h

theorem arrOf_spec {T E : TypeId} {n : Nat} (h : arrOf P T = some (n, E)) : P.underlying T = some (.array n E) := by
  unfold arrOf at h
  split at h
  · cases h; assumption
  · cases h

theorem elemOfS_spec {T E : TypeId} (h : elemOfS P T = some E) : P.underlying T = some (.slice E) := by
  unfold elemOfS at h
  split at h
  · cases h; assumption
  · cases h

theorem szOf_type {T : TypeId} {s : Nat} (h : szOf P T = some s) : ∃ i, P.info? T = some i ∧ i.size = s := by
  unfold szOf at h
  simpa using h

theorem addr_add (b o n : Nat) : (⟨b, o, none⟩ : Addr).add n = ⟨b, o + n, none⟩ := by
  unfold Addr.add; split <;> simp_all

theorem fold_set (off : Nat) : ∀ (l : List Value) (k : Nat) (a : Array Value), off + k + l.length ≤ a.size →
    ((l.zipIdx k).foldl (fun (cs : Array Value) (p : Value × Nat) => cs.setIfInBounds (off + p.2) p.1) a).toList = a.toList.take (off + k) ++ l ++ a.toList.drop (off + k + l.length)
  | [], k, a, h => by simp
  | v :: l, k, a, h => by
    simp only [List.zipIdx_cons, List.foldl_cons]
    have ih := fold_set off l (k + 1) (a.setIfInBounds (off + k) v) (by simp at h ⊢; omega)
    rw [ih]
    have e := list_seg_step a.toList (off + k) v l (by simp at h ⊢; omega)
    simpa [Array.toList_setIfInBounds, Nat.add_assoc] using e

theorem fold_cells (off : Nat) (l a : Array Value) (h : off + l.size ≤ a.size) :
    (l.zipIdx.foldl (fun (cs : Array Value) (p : Value × Nat) => cs.setIfInBounds (off + p.2) p.1) a).toList = setRange a.toList off l.toList := by
  rw [← Array.foldl_toList, Array.toList_zipIdx]
  have := fold_set off l.toList 0 a (by simpa using h)
  simpa [setRange] using this

theorem RVs.setRange {μ : Mu} {cs cs' vs vs' : List Value} (h : RVs μ cs cs') (g : RVs μ vs vs') (o : Nat) : RVs μ (setRange cs o vs) (setRange cs' o vs') := by
  unfold AX.setRange
  rw [g.length]
  exact ((h.take o).append g).append (h.drop _)

theorem leaf_setRange {cs vs : List Value} {o : Nat} (h : ∀ v ∈ cs, v.oneCell' = true) (g : ∀ v ∈ vs, v.oneCell' = true) : ∀ v ∈ setRange cs o vs, v.oneCell' = true := by
  intro v hv
  unfold AX.setRange at hv
  simp only [List.mem_append] at hv
  rcases hv with (hv | hv) | hv
  · exact h v (List.mem_of_mem_take hv)
  · exact g v hv
  · exact h v (List.mem_of_mem_drop hv)

theorem setRange_length {cs vs : List Value} {o : Nat} (h : o + vs.length ≤ cs.length) : (setRange cs o vs).length = cs.length := by
  simp [setRange]; omega

theorem fill_step {place : Nat → Option (Nat × Nat)} {i off : Nat} {v : Value} {cells : Array Value} {rest : List (Nat × Value)} (hp : place i = some (off, v.cells.size)) (h : off + v.cells.size ≤ cells.size) :
    ∃ cells', cells'.toList = setRange cells.toList off v.cells.toList ∧ Instr.fill place cells ((i, v) :: rest) = Instr.fill place cells' rest := by
  refine ⟨_, fold_cells off v.cells cells h, ?_⟩
  simp only [Instr.fill, hp]
  rw [if_neg (by simp; omega)]

theorem partsA_fill {μ : Mu} {T : TypeId} {fs : Array Field} (hT : P.underlying T = some (.struct fs)) (place : Nat → Option (Nat × Nat))
    (hp : ∀ (i : Nat) (x : Field), fs[i]? = some x → ∀ s, szOf P x.type = some s → place i = some (x.offset, s)) :
    ∀ (ps ps' : List (Nat × Value)) (cs : List Value) (cs' : Array Value) (out : List Value), RPs μ ps ps' → RVs μ cs cs'.toList → (∀ v ∈ cs, v.oneCell' = true) → partsA P T ps cs = some out →
      ∃ out', Instr.fill place cs' ps' = some out' ∧ RVs μ out out'.toList ∧ (∀ v ∈ out, v.oneCell' = true)
  | _, _, cs, cs', out, .nil, hc, hl, h => by
    simp [partsA] at h; subst h
    exact ⟨cs', rfl, hc, hl⟩
  | _, _, cs, cs', out, .cons (i := i) (v := v) (v' := v') hv ht, hc, hl, h => by
    simp only [partsA] at h
    split at h
    · rename_i o t hf
      split at h
      · rename_i hsz
        obtain ⟨hsz, hfit, htup⟩ := hsz
        obtain ⟨fs', x, hd, hx, ho, htt⟩ := fieldOf_spec hf
        rw [hT] at hd; cases hd
        simp only at ho htt
        subst ho; subst htt
        have hpl := hp i x hx _ hsz
        obtain ⟨hv1, hv2, hv3⟩ := agg_cells hv htup
        have hlen : v'.cells.size = v.cells.size := by have := hv1.length; simp at this; omega
        have hcl := hc.length
        rw [← hlen] at hpl
        obtain ⟨cells', hc', hfill⟩ := fill_step (rest := _) hpl (cells := cs') (by simp at hcl; omega)
        obtain ⟨out', h1, h2, h3⟩ := partsA_fill hT place hp _ _ _ cells' out ht (by rw [hc']; exact hc.setRange hv1 _) (leaf_setRange hl hv2) h
        exact ⟨out', by rw [hfill]; exact h1, h2, h3⟩
      · cases h
    · cases h

theorem elemsA_fill {μ : Mu} {s : Nat} :
    ∀ (ps ps' : List (Nat × Value)) (cs : List Value) (cs' : Array Value) (out : List Value), RPs μ ps ps' → RVs μ cs cs'.toList → (∀ v ∈ cs, v.oneCell' = true) → elemsA s ps cs = some out →
      ∃ out', Instr.fill (fun i => some (i * s, s)) cs' ps' = some out' ∧ RVs μ out out'.toList ∧ (∀ v ∈ out, v.oneCell' = true) ∧ out.length = cs.length
  | _, _, cs, cs', out, .nil, hc, hl, h => by
    simp [elemsA] at h; subst h
    exact ⟨cs', rfl, hc, hl, rfl⟩
  | _, _, cs, cs', out, .cons (i := i) (v := v) (v' := v') hv ht, hc, hl, h => by
    simp only [elemsA] at h
    split at h
    · rename_i hsz
      obtain ⟨hsz, hfit, htup⟩ := hsz
      obtain ⟨hv1, hv2, hv3⟩ := agg_cells hv htup
      have hlen : v'.cells.size = v.cells.size := by have := hv1.length; simp at this; omega
      have hcl := hc.length
      obtain ⟨cells', hc', hfill⟩ := fill_step (place := fun i => some (i * s, s)) (rest := _) (i := i) (off := i * s) (v := v') (cells := cs') (by simp [hlen, hsz]) (by simp at hcl; omega)
      obtain ⟨out', h1, h2, h3, h4⟩ := elemsA_fill _ _ _ cells' out ht (by rw [hc']; exact hc.setRange hv1 _) (leaf_setRange hl hv2) h
      exact ⟨out', by rw [hfill]; exact h1, h2, h3, by rw [h4, setRange_length (by simpa using hfit)]⟩
    · cases h

theorem run_places (w : World) : ∀ (fs : List Field), (∀ f ∈ fs, (P.info? f.type).isSome = true) →
    (fs.mapM fun f => (do pure (f.offset, ← sizeOf f.type) : Sem (Nat × Nat))).run P w = .ok (fs.map fun f => (f.offset, (szOf P f.type).getD 0)) w
  | [], _ => by simp
  | f :: fs, h => by
    obtain ⟨i, hi⟩ := Option.isSome_iff_exists.1 (h f (by simp))
    have hs : szOf P f.type = some i.size := by simp [szOf, hi]
    have ih := run_places w fs fun g hg => h g (by simp [hg])
    simp only [List.mapM_cons, Sem.run_bind, run_sizeOf hs, Result.andThen_ok, Sem.run_pure, List.map_cons, hs, Option.getD_some, ih]

theorem opx_build {T : TypeId} {parts : Array (Nat × Operand)} {call : CallF} {q : Bool} {ty : TypeId} {e : Operand → Option Value} {σ : AMem} {K : Value → AMem → Option ρ} {r : ρ}
    (h : opx P call q (.build T parts) ty e σ K = some r) : ∃ v, K v σ = some r ∧ ∀ (o : Oper), o.op = .build T parts → PureOk P o e v := by
  simp only [opx, Option.bind_eq_some_iff] at h
  obtain ⟨z, hz, h⟩ := h
  obtain ⟨ps, h, hps⟩ := evp_spec h
  split at h
  · rename_i fs hT
    split at h
    · rename_i hall
      simp only [Option.bind_eq_some_iff] at h
      obtain ⟨cs, hcs, h⟩ := h
      refine ⟨_, h, fun o ho μ w f hf => ?_⟩
      obtain ⟨hz1, hz2⟩ := run_zeroOf hz w
      have hpl := hps μ f hf
      have hzr : RV μ z z := .constOk hz2
      obtain ⟨hzc, hzl, _⟩ := agg_cells hzr (hall.2)
      have hrun := run_places (P := P) w fs.toList (by have := hall.1; rw [List.all_eq_true] at this; exact this)
      obtain ⟨out', h1, h2, h3⟩ := partsA_fill hT (fun i => (fs.toList.map fun f => (f.offset, (szOf P f.type).getD 0)).toArray[i]?)
        (fun i x hx s hs => by simp [hx, hs]) _ _ _ z.cells cs hpl hzc hzl hcs
      refine ⟨.agg out', ?_, .agg (by simpa using h2) (by simpa using h3)⟩
      have hm : (parts.map fun x => (x.1, f x.2)).toList = parts.toList.map fun p => (p.1, f p.2) := by simp
      have harr : (fs.mapM fun f => (do pure (f.offset, ← sizeOf f.type) : Sem (Nat × Nat))).run P w = .ok (fs.toList.map fun f => (f.offset, (szOf P f.type).getD 0)).toArray w := by
        rw [Array.mapM_eq_mapM_toList]
        simp only [Sem.run_map, hrun, Result.andThen_ok]
      simp only [execOp, ho, Instr.build, Sem.run_bind, hz1, Result.andThen_ok, run_underlying hT, harr, hm, h1, Sem.run_pure]
    · cases h
  · rename_i n E hT
    simp only [Option.bind_eq_some_iff] at h
    obtain ⟨s, hs, h⟩ := h
    split at h
    · rename_i htup
      simp only [Option.bind_eq_some_iff] at h
      obtain ⟨cs, hcs, h⟩ := h
      refine ⟨_, h, fun o ho μ w f hf => ?_⟩
      obtain ⟨hz1, hz2⟩ := run_zeroOf hz w
      have hpl := hps μ f hf
      have hzr : RV μ z z := .constOk hz2
      obtain ⟨hzc, hzl, _⟩ := agg_cells hzr htup
      obtain ⟨out', h1, h2, h3, _⟩ := elemsA_fill _ _ _ z.cells cs hpl hzc hzl hcs
      refine ⟨.agg out', ?_, .agg (by simpa using h2) (by simpa using h3)⟩
      have hm : (parts.map fun x => (x.1, f x.2)).toList = parts.toList.map fun p => (p.1, f p.2) := by simp
      simp only [execOp, ho, Instr.build, Sem.run_bind, hz1, Result.andThen_ok, run_underlying hT, run_sizeOf hs, hm, h1, Sem.run_pure]
    · cases h
  · cases h

end Go.AX
