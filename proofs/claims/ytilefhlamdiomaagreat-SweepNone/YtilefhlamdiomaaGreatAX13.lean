/-
  Regions: the trace of a run in the order of the text.
-/
import Derived.Test.YtilefhlamdiomaaGreatAX12
set_option linter.unusedSimpArgs false
set_option linter.unusedVariables false
set_option linter.unusedSectionVars false
namespace Go.AX
open Go
variable {ρ : Type} {P : Program} [Quiet]

/-- Registers that say less. -/
def Weak (E regs : Regs) : Prop := ∀ (t : Nat) (v : Value), regs.getD t none = some v → E.getD t none = some v

theorem Weak.refl (E : Regs) : Weak E E := fun _ _ h => h
theorem Weak.trans {a b c : Regs} (h : Weak a b) (g : Weak b c) : Weak a c := fun t v e => h t v (g t v e)

theorem getD_set (regs : Regs) (d t : Nat) (v : Option Value) : (regs.set d v).getD t none = if d = t ∧ d < regs.length then v else regs.getD t none := by
  simp only [List.getD_eq_getElem?_getD, List.getElem?_set]
  by_cases h : d = t
  · subst h
    by_cases h2 : d < regs.length
    · simp [h2]
    · simp [h2]
  · simp [h]

theorem Weak.put {E regs : Regs} (h : Weak E regs) (hl : regs.length = E.length) (d : Option Nat) (v : Option Value) : Weak (putr E d v) (putr regs d v) := by
  cases d with
  | none => exact h
  | some d =>
    intro t u
    simp only [putr, getD_set]
    by_cases hc : d = t ∧ d < regs.length
    · rw [if_pos hc, if_pos (by rw [← hl]; exact hc)]; exact id
    · rw [if_neg hc, if_neg (by rw [← hl]; exact hc)]; exact h t u

theorem Weak.putNone {E regs : Regs} (h : Weak E regs) (d : Option Nat) : Weak E (putr regs d none) := by
  cases d with
  | none => exact h
  | some d =>
    intro t u
    simp only [putr, getD_set]
    split
    · intro h; cases h
    · exact h t u

theorem putr_length (regs : Regs) (d : Option Nat) (v : Option Value) : (putr regs d v).length = regs.length := by
  cases d <;> simp [putr]

theorem evr_weak {E regs : Regs} (h : Weak E regs) {x : Operand} {u : Value} (hx : evr regs x = some u) : evr E x = some u := by
  cases x with
  | tmp t => exact h t u hx
  | const v => exact hx
  | global g => exact hx
  | func f => exact hx

theorem regOf_weak {all : List Oper} {E regs : Regs} (h : Weak E regs) {j : Nat} {u : Value} (hx : regOf all regs j = some u) : regOf all E j = some u := by
  unfold regOf at hx ⊢
  split at hx
  · exact h _ u hx
  · cases hx

theorem evs_congr {e e' : Operand → Option Value} : ∀ {xs : List Operand} {K : List Value → Option ρ}, (∀ x ∈ xs, e x = e' x) → evs e xs K = evs e' xs K
  | [], K, _ => rfl
  | x :: xs, K, h => by
    simp only [evs]
    rw [h x (by simp)]
    congr 1; funext v
    exact evs_congr fun y hy => h y (by simp [hy])

theorem evp_congr {e e' : Operand → Option Value} : ∀ {xs : List (Nat × Operand)} {K : List (Nat × Value) → Option ρ}, (∀ p ∈ xs, e p.2 = e' p.2) → evp e xs K = evp e' xs K
  | [], K, _ => rfl
  | (i, x) :: xs, K, h => by
    simp only [evp]
    rw [h (i, x) (by simp)]
    congr 1; funext v
    exact evp_congr fun y hy => h y (by simp [hy])

theorem evo_congr {e e' : Operand → Option Value} {x : Option Operand} {K : Option Value → Option ρ} (h : ∀ y, x = some y → e y = e' y) : evo e x K = evo e' x K := by
  cases x with
  | none => rfl
  | some y => simp only [evo]; rw [h y rfl]

theorem opx_congr {call : CallF} {q : Bool} {op : Op} {ty : TypeId} {e e' : Operand → Option Value} {σ : AMem} {K : Value → AMem → Option ρ} (h : ∀ x ∈ op.operands, e x = e' x) : opx P call q op ty e σ K = opx P call q op ty e' σ K := by
  cases op <;> simp only [Op.operands] at h <;> simp only [opx]
  case build t ps => congr 1; funext z; exact evp_congr fun p hp => h p.2 (by simpa using ⟨p.1, by simpa using hp⟩)
  case buildSlice t n ps => congr 1; funext E; congr 1; congr 1; funext z; exact evp_congr fun p hp => h p.2 (by simpa using ⟨p.1, by simpa using hp⟩)
  case makeFunc fn first captured =>
    split
    · rfl
    rw [evs_congr (xs := first.toList) fun x hx => h x (by simp at hx; simp [hx])]
    congr 1; funext vs
    exact evs_congr fun x hx => h x (by simp at hx; simp [hx])
  case call c =>
    cases hc : c.callee with
    | builtin b => simp only; exact evs_congr fun x hx => h x (by simp at hx; simp [Call.operands, hx])
    | invoke r m => rfl
    | value f =>
      simp only
      rw [h f (by simp [Call.operands, hc])]
      congr 1; funext fv
      exact evs_congr fun x hx => h x (by simp at hx; simp [Call.operands, hx])
  case slice t x lo hi mx =>
    congr 1; funext E; congr 1; funext s
    rw [h x (by simp)]
    congr 1; funext v
    rw [evo_congr fun y hy => h y (by simp [hy])]
    congr 1; funext lo'
    rw [evo_congr fun y hy => h y (by simp [hy])]
    congr 1; funext hi'
    rw [evo_congr fun y hy => h y (by simp [hy])]
  case makeMap t r => cases r <;> rfl
  all_goals (first | rfl | (simp_all; done))

open Classical in
/-- The operands of an operation alone. -/
noncomputable def restr (o : Oper) (e : Operand → Option Value) : Operand → Option Value := fun x => if x ∈ o.op.operands then e x else none

theorem restr_some {o : Oper} {e : Operand → Option Value} {x : Operand} {u : Value} (h : restr o e x = some u) : x ∈ o.op.operands ∧ e x = some u := by
  unfold restr at h
  split at h
  · exact ⟨‹_›, h⟩
  · cases h

theorem opx_restr {call : CallF} {q : Bool} {o : Oper} {ty : TypeId} {e : Operand → Option Value} {σ : AMem} {K : Value → AMem → Option ρ} : opx P call q o.op ty e σ K = opx P call q o.op ty (restr o e) σ K :=
  opx_congr fun x hx => by unfold restr; rw [if_pos hx]

/-- What is known of an operation that was run at a memory, on operands. -/
structure OpFacts (P : Program) (o : Oper) (q : Bool) (e : Operand → Option Value) (σ : AMem) (v : Value) (σ' : AMem) : Prop where
  len : σ.length ≤ σ'.length
  wp : ∀ (a : Act) (μ : Mu) (w : World), R P μ σ w → Fresh μ σ.length σ'.length → (∀ x u, e x = some u → RV μ u (a.eval x)) → OpWp P o a w μ σ v σ'
  pure : cls0 P o = .pure → σ' = σ ∧ PureOk P o e v
  ld : cls0 P o = .ld → σ' = σ
  al : cls0 P o = .al → (∀ c, o.op ≠ .call c) ∨ q = true → σ <+: σ'
  app : isApp o = true → q = true → σ <+: σ'
  more : OpMore P o e σ v

/-- An operation is run. -/
def yes (all : List Oper) (o : Oper) (regs : Regs) : Prop :=
  match o.guard with
  | none => True
  | some (j, want) => regOf all regs j = some (.bool want)

/-- An operation is passed by. -/
def no (all : List Oper) (o : Oper) (regs : Regs) : Prop :=
  ∃ j want, o.guard = some (j, want) ∧ ((∃ b, regOf all regs j = some (.bool b) ∧ b ≠ want) ∨ regOf all regs j = some undef)

inductive Tr (P : Program) (qf : Nat → QF) (all : List Oper) : List (Nat × Oper) → Regs → AMem → Regs → AMem → Prop
  | nil {E : Regs} {σ : AMem} : Tr P qf all [] E σ E σ
  | step {i : Nat} {o : Oper} {rest : List (Nat × Oper)} {E regs E' : Regs} {σ σ1 σ' : AMem} {v : Value} (hw : Weak E regs) (hy : yes all o regs) (hf : OpFacts P o (qf i).1 (restr o (evr regs)) σ v σ1) (hk : Kept (qf i).2 E σ σ1)
      (ht : Tr P qf all rest (putr E o.dst (some v)) σ1 E' σ') : Tr P qf all ((i, o) :: rest) E σ E' σ'
  | skip {i : Nat} {o : Oper} {rest : List (Nat × Oper)} {E regs E' : Regs} {σ σ' : AMem} (hw : Weak E regs) (hn : no all o regs) (ht : Tr P qf all rest (putr E o.dst (some undef)) σ E' σ') : Tr P qf all ((i, o) :: rest) E σ E' σ'

theorem Tr.append {qf : Nat → QF} {all : List Oper} {a b : List (Nat × Oper)} {E E1 E2 : Regs} {σ σ1 σ2 : AMem} (h : Tr P qf all a E σ E1 σ1) (g : Tr P qf all b E1 σ1 E2 σ2) : Tr P qf all (a ++ b) E σ E2 σ2 := by
  induction h with
  | nil => exact g
  | step hw hy hf hk ht ih => exact .step hw hy hf hk (ih g)
  | skip hw hn ht ih => exact .skip hw hn (ih g)

theorem Tr.len {qf : Nat → QF} {all : List Oper} {a : List (Nat × Oper)} {E E1 : Regs} {σ σ1 : AMem} (h : Tr P qf all a E σ E1 σ1) : σ.length ≤ σ1.length ∧ E1.length = E.length := by
  induction h with
  | nil => exact ⟨Nat.le_refl _, rfl⟩
  | step hw hy hf hk ht ih => exact ⟨Nat.le_trans hf.len ih.1, by rw [ih.2, putr_length]⟩
  | skip hw hn ht ih => exact ⟨ih.1, by rw [ih.2, putr_length]⟩

theorem getD_putr_other {regs : Regs} {d : Option Nat} {v : Option Value} {t : Nat} (h : d ≠ some t) : (putr regs d v).getD t none = regs.getD t none := by
  cases d with
  | none => rfl
  | some d =>
    simp only [putr, getD_set]
    rw [if_neg]
    rintro ⟨rfl, _⟩; exact h rfl

theorem Tr.other {qf : Nat → QF} {all : List Oper} {a : List (Nat × Oper)} {E E1 : Regs} {σ σ1 : AMem} (h : Tr P qf all a E σ E1 σ1) {t : Nat} (ht : ∀ io ∈ a, io.2.dst ≠ some t) : E1.getD t none = E.getD t none := by
  induction h with
  | nil => rfl
  | @step i o rest E regs E' σ σ1 σ' v hw hy hf _ _ ih => exact (ih fun io hio => ht io (by simp [hio])).trans (getD_putr_other (ht (i, o) (by simp)))
  | @skip i o rest E regs E' σ σ' hw hn _ ih => exact (ih fun io hio => ht io (by simp [hio])).trans (getD_putr_other (ht (i, o) (by simp)))

theorem getD_maskOps {t : Nat} {v : Value} : ∀ {ops : List (Nat × Oper)} {regs : Regs}, (maskOps regs ops).getD t none = some v → regs.getD t none = some v ∧ ∀ io ∈ ops, io.2.dst = some t → ¬ t < regs.length
  | [], regs, h => ⟨h, by simp⟩
  | io :: rest, regs, h => by
    simp only [maskOps] at h
    obtain ⟨h1, h2⟩ := getD_maskOps h
    by_cases hd : io.2.dst = some t
    · rw [hd] at h1
      simp only [putr, getD_set] at h1
      by_cases hl : t < regs.length
      · simp [hl] at h1
      · rw [if_neg (by simp [hl])] at h1
        refine ⟨h1, fun io' hio' hd' => ?_⟩
        exact hl
    · rw [getD_putr_other hd] at h1
      refine ⟨h1, fun io' hio' hd' => ?_⟩
      rcases List.mem_cons.1 hio' with rfl | hio'
      · exact absurd hd' hd
      · have := h2 io' hio' hd'; rwa [putr_length] at this

theorem skipOps_tr {qf : Nat → QF} {all : List Oper} : ∀ {ops : List (Nat × Oper)} {regs regs' E : Regs} (σ : AMem), skipOps all ops regs = some regs' → Weak E regs → regs.length = E.length → ∃ E', Tr P qf all ops E σ E' σ ∧ Weak E' regs' ∧ regs'.length = E'.length
  | [], regs, regs', E, σ, h, hw, hl => by
    simp [skipOps] at h; subst h; exact ⟨E, .nil, hw, hl⟩
  | io :: rest, regs, regs', E, σ, h, hw, hl => by
    simp only [skipOps] at h
    split at h
    · cases h
    · rename_i j want hg
      have done : no all io.2 regs → skipOps all rest (putr regs io.2.dst (some undef)) = some regs' → ∃ E', Tr P qf all (io :: rest) E σ E' σ ∧ Weak E' regs' ∧ regs'.length = E'.length := by
        intro hn h
        obtain ⟨E', h1, h2, h3⟩ := skipOps_tr σ h (hw.put hl _ _) (by rw [putr_length, putr_length]; exact hl)
        exact ⟨E', .skip hw hn h1, h2, h3⟩
      split at h
      · rename_i b hr
        cases hbw : (b == want) with
        | true => rw [hbw] at h; cases h
        | false =>
          rw [hbw] at h
          exact done ⟨j, want, hg, .inl ⟨b, hr, by simpa using hbw⟩⟩ h
      · rename_i vs hr
        cases he : vs.toList.isEmpty with
        | false => rw [he] at h; cases h
        | true =>
          rw [he] at h
          refine done ⟨j, want, hg, .inr ?_⟩ h
          have : vs = #[] := by
            cases vs with
            | mk l => cases l <;> simp_all
          rw [hr, this]; rfl
      · cases h

theorem weak_lit {all : List Oper} {E regs : Regs} {j : Nat} {b : Bool} (hw : Weak E regs) (h : regOf all regs j = some (.bool b)) : Weak E (putr regs (dstOf all j) (some (.bool b))) := by
  unfold regOf at h
  split at h
  · rename_i d hd
    rw [hd]
    intro t v
    simp only [putr, getD_set]
    split
    · rename_i hc
      intro hv
      rw [← hc.1]
      rw [← hv]
      exact hw _ _ h
    · exact hw t v
  · cases h

theorem runOps_tr {call : CallF} (hcall : CallOk P call) {qf : Nat → QF} {all : List Oper} : ∀ (fuel : Nat) {ρ : Type} {known : List (Nat × Bool)} {ops : List (Nat × Oper)} {regs E : Regs} {σ : AMem} {K : Regs → AMem → Option ρ} {r : ρ},
    runOps P call qf all fuel ρ known ops regs σ K = some r → Weak E regs → regs.length = E.length → ∃ regs' E' σ', Tr P qf all ops E σ E' σ' ∧ Weak E' regs' ∧ regs'.length = E'.length ∧ K regs' σ' = some r
  | 0, ρ, known, ops, regs, E, σ, K, r, h, hw, hl => by simp [runOps] at h
  | fuel + 1, ρ, known, ops, regs, E, σ, K, r, h, hw, hl => by
    cases ops with
    | nil => simp only [runOps] at h; exact ⟨regs, E, σ, .nil, hw, hl, h⟩
    | cons io rest =>
      have one : yes all io.2 regs → (opx P call (qf io.1).1 io.2.op io.2.type (evr regs) σ fun v σ' => keepsA (qf io.1).2 regs σ σ' (runOps P call qf all fuel ρ known rest (putr regs io.2.dst (some v)) σ' K)) = some r →
          ∃ regs' E' σ', Tr P qf all (io :: rest) E σ E' σ' ∧ Weak E' regs' ∧ regs'.length = E'.length ∧ K regs' σ' = some r := by
        intro hy h
        rw [opx_restr] at h
        obtain ⟨v, σ1, h1, h2, h3, h4, h5, h6⟩ := op_wp hcall h
        obtain ⟨h1, hk⟩ := keepsA_spec h1
        obtain ⟨regs', E', σ', g1, g2, g3, g4⟩ := runOps_tr hcall fuel h1 (hw.put hl _ _) (by rw [putr_length, putr_length]; exact hl)
        exact ⟨regs', E', σ', .step hw hy ⟨h2, h3, h4, h5, h6.1, h6.2.1, h6.2.2⟩ (fun t ht => (hk t ht).imp fun a ha => ⟨hw t _ ha.1, ha.2⟩) g1, g2, g3, g4⟩
      simp only [runOps] at h
      split at h
      · rename_i hg
        exact one (by unfold yes; rw [hg]; trivial) h
      · rename_i j want hg
        cases hk : known.contains (j, want) with
        | true =>
          rw [hk] at h
          simp only [cond_true] at h
          split at h
          · rename_i b hr
            cases hbw : (b == want) with
            | false => rw [hbw] at h; cases h
            | true =>
              rw [hbw] at h
              have : b = want := by simpa using hbw
              subst this
              exact one (by unfold yes; rw [hg]; exact hr) h
          · cases h
        | false =>
          rw [hk] at h
          simp only [cond_false] at h
          split at h
          · cases h
          · rename_i body p after hsp
            have hrest := splitPick_eq hsp
            simp only at hrest
            split at h
            · rename_i b hr
              simp only [Option.bind_eq_some_iff] at h
              obtain ⟨⟨rb, σ1⟩, h1, h2⟩ := h
              rw [sel_eq] at h1
              -- the group and its pick
              have grp : ∃ regs1 E1, Tr P qf all (io :: (body ++ [p])) E σ E1 σ1 ∧ Weak E1 regs1 ∧ (p.2.dst.bind fun d => regs1.getD d none) = some (.bool rb) := by
                have fin : ∀ (regs' : Regs) (σ' : AMem), (((p.2.dst.bind fun d => regs'.getD d none).bind toB).bind fun r => some (r, σ')) = some (rb, σ1) → (p.2.dst.bind fun d => regs'.getD d none) = some (.bool rb) ∧ σ' = σ1 := by
                  intro regs' σ' hq
                  rw [Option.bind_eq_some_iff] at hq
                  obtain ⟨x, hx, hxx⟩ := hq
                  rw [Option.bind_eq_some_iff] at hx
                  obtain ⟨y, hy, hyy⟩ := hx
                  cases hxx
                  refine ⟨?_, rfl⟩
                  rw [hy]
                  cases y <;> simp [toB] at hyy
                  rw [hyy]
                cases hbw : (b == want) with
                | true =>
                  rw [hbw] at h1
                  simp only [cond_true] at h1
                  have : b = want := by simpa using hbw
                  subst this
                  obtain ⟨regs', E', σ', g1, g2, g3, g4⟩ := runOps_tr hcall fuel h1 (weak_lit hw hr) (by rw [putr_length]; exact hl)
                  obtain ⟨k1, rfl⟩ := fin _ _ g4
                  exact ⟨regs', E', g1, g2, k1⟩
                | false =>
                  rw [hbw] at h1
                  simp only [cond_false, Option.bind_eq_some_iff] at h1
                  obtain ⟨regs2, hs, h1⟩ := h1
                  have : b = !want := by
                    have : b ≠ want := by simpa using hbw
                    cases b <;> cases want <;> simp_all
                  subst this
                  obtain ⟨E2, s1, s2, s3⟩ := skipOps_tr (P := P) (qf := qf) σ hs (weak_lit hw hr) (by rw [putr_length]; exact hl)
                  obtain ⟨regs', E', σ', g1, g2, g3, g4⟩ := runOps_tr hcall fuel h1 s2 s3
                  obtain ⟨k1, rfl⟩ := fin _ _ g4
                  exact ⟨regs', E', s1.append g1, g2, k1⟩
              obtain ⟨regs1, E1, t1, t2, t3⟩ := grp
              have hE1 := t1.len.2
              have hw2 : Weak E1 (putr (maskOps regs (io :: body)) p.2.dst (some (.bool rb))) := by
                cases hpd : p.2.dst with
                | none => rw [hpd] at t3; cases t3
                | some pd =>
                  rw [hpd] at t3
                  simp only [Option.bind_some] at t3
                  intro t v
                  simp only [putr, getD_set]
                  split
                  · rename_i hc
                    intro hv; cases hv
                    rw [← hc.1]; exact t2 _ _ t3
                  · rename_i hc
                    intro hv
                    obtain ⟨m1, m2⟩ := getD_maskOps hv
                    have htl : t < regs.length := by
                      rcases Nat.lt_or_ge t regs.length with h | h
                      · exact h
                      · rw [List.getD_eq_getElem?_getD, List.getElem?_eq_none h] at m1; cases m1
                    rw [t1.other]
                    · exact hw _ _ m1
                    · intro io' hio' hd
                      rcases List.mem_cons.1 hio' with rfl | hio'
                      · exact m2 io' (by simp) hd htl
                      · rcases List.mem_append.1 hio' with hio' | hio'
                        · exact m2 io' (by simp [hio']) hd htl
                        · simp at hio'; subst hio'
                          rw [hpd] at hd; cases hd
                          apply hc
                          refine ⟨rfl, ?_⟩
                          have : ∀ (l : List (Nat × Oper)) (r : Regs), (maskOps r l).length = r.length := by
                            intro l
                            induction l with
                            | nil => intro r; rfl
                            | cons a l ih => intro r; simp only [maskOps]; rw [ih, putr_length]
                          rw [this]; exact htl
              have hlen2 : (putr (maskOps regs (io :: body)) p.2.dst (some (.bool rb))).length = E1.length := by
                have : ∀ (l : List (Nat × Oper)) (r : Regs), (maskOps r l).length = r.length := by
                  intro l
                  induction l with
                  | nil => intro r; rfl
                  | cons a l ih => intro r; simp only [maskOps]; rw [ih, putr_length]
                rw [putr_length, this, hE1]; exact hl
              obtain ⟨regs', E', σ', g1, g2, g3, g4⟩ := runOps_tr hcall fuel h2 hw2 hlen2
              refine ⟨regs', E', σ', ?_, g2, g3, g4⟩
              rw [hrest]
              have := t1.append g1
              simpa using this
            · cases h

end Go.AX
