/-
  The executor is sound.
-/
import Derived.Test.YtlaplcglpnlieaaAX17
import Derived.LoopN
set_option linter.unusedSimpArgs false
set_option linter.unusedVariables false
set_option linter.unusedSectionVars false
namespace Go.AX
open Go
variable {ρ : Type} {P : Program} [Quiet]

theorem packs_spec {regs : Regs} {r : LOut} : ∀ {os : List (Nat × Kd)} {K : List Value → Option LOut}, packs regs os K = some r → ∃ vs, vs.length = os.length ∧ (∀ (j : Nat) t k, os[j]? = some (t, k) → regs.getD t none = vs[j]?) ∧ K vs = some r
  | [], K, h => ⟨[], rfl, by simp, h⟩
  | (t, k) :: os, K, h => by
    simp only [packs, Option.bind_eq_some_iff] at h
    obtain ⟨v, hv, h⟩ := h
    obtain ⟨vs, h1, h2, h3⟩ := packs_spec h
    refine ⟨v :: vs, by simp [h1], ?_, h3⟩
    intro j t' k' hj
    cases j with
    | zero => simp at hj; obtain ⟨rfl, rfl⟩ := hj; simpa using hv
    | succ j => simpa using h2 j t' k' (by simpa using hj)

theorem setAll_spec : ∀ {os : List (Nat × Kd)} {vs : List Value} {regs : Regs}, (setAll os vs regs).length = regs.length ∧
    ∀ (t : Nat) (v : Value), (setAll os vs regs).getD t none = some v → (∃ (j : Nat) (k : Kd), os[j]? = some (t, k) ∧ vs[j]? = some v) ∨ regs.getD t none = some v
  | [], vs, regs => ⟨by cases vs <;> rfl, fun t v h => .inr (by cases vs <;> exact h)⟩
  | (t0, k0) :: os, [], regs => ⟨rfl, fun t v h => .inr h⟩
  | (t0, k0) :: os, v0 :: vs, regs => by
    obtain ⟨h1, h2⟩ := setAll_spec (os := os) (vs := vs) (regs := regs.set t0 (some v0))
    refine ⟨by simp only [setAll]; rw [h1]; simp, fun t v h => ?_⟩
    simp only [setAll] at h
    rcases h2 t v h with ⟨j, k, hj1, hj2⟩ | h
    · exact .inl ⟨j + 1, k, by simpa using hj1, by simpa using hj2⟩
    · rw [getD_set] at h
      split at h
      · rename_i hc
        cases h
        exact .inl ⟨0, k0, by rw [hc.1]; rfl, rfl⟩
      · exact .inr h

theorem forget_go : ∀ {ts : List Nat} {regs : Regs}, (forget.go ts regs).length = regs.length ∧ ∀ (t : Nat) (v : Value), (forget.go ts regs).getD t none = some v → t ∉ ts ∧ regs.getD t none = some v
  | [], regs => ⟨rfl, fun t v h => ⟨by simp, h⟩⟩
  | t0 :: ts, regs => by
    obtain ⟨h1, h2⟩ := forget_go (ts := ts) (regs := regs.set t0 none)
    refine ⟨by simp only [forget.go]; rw [h1]; simp, fun t v h => ?_⟩
    obtain ⟨g1, g2⟩ := h2 t v h
    rw [getD_set] at g2
    split at g2
    · cases g2
    · rename_i hc
      refine ⟨?_, g2⟩
      rw [List.mem_cons]
      rintro (rfl | h')
      · have : t < regs.length := by
          rcases Nat.lt_or_ge t regs.length with h | h
          · exact h
          · rw [List.getD_eq_getElem?_getD, List.getElem?_eq_none h] at g2; cases g2
        exact hc ⟨rfl, this⟩
      · exact g1 h'

theorem unexit_spec {x : AExit} {K : AExit → List (Nat × Kd) → Option ρ} {r : ρ} : ∀ {es : List (AExit × List (Nat × Kd))}, unexit x K es = some r → ∃ outs, outsAt x es = some outs ∧ K x outs = some r
  | [], h => by cases h
  | e :: es, h => by
    simp only [unexit] at h
    simp only [outsAt]
    split at h
    · rename_i hx
      rw [if_pos hx]
      rw [hx]
      exact ⟨e.2, rfl, h⟩
    · rename_i hx
      rw [if_neg hx]
      exact unexit_spec h

theorem unpack_spec {h : Hint} {c : Code} {regs regs' : Regs} {x : AExit} {σ' : AMem} {r1 : LOut} {K : AExit → Regs → AMem → Option ρ} {r : ρ} (hp : pack h.exits x regs' σ' = some r1) (hu : unpack h c regs r1 K = some r) :
    ∃ regs2, K x regs2 σ' = some r ∧ regs2.length = regs.length ∧ ∀ (t : Nat) (v : Value), regs2.getD t none = some v → regs'.getD t none = some v ∨ (t ∉ dsts c ∧ regs.getD t none = some v) := by
  unfold pack at hp
  simp only [Option.bind_eq_some_iff] at hp
  obtain ⟨outs, ho, hp⟩ := hp
  obtain ⟨vs, hl, hv, hk⟩ := packs_spec hp
  cases hk
  unfold unpack at hu
  obtain ⟨outs', ho', hu⟩ := unexit_spec hu
  simp only at ho'
  rw [ho] at ho'; cases ho'
  obtain ⟨h1, h2⟩ := asKs_spec hu
  simp only at h2
  rw [List.length_map, ← hl, List.take_length] at h2
  refine ⟨_, h2, ?_, fun t v hv' => ?_⟩
  · rw [setAll_spec.1]; exact forget_go.1
  · rcases setAll_spec.2 t v hv' with ⟨j, k, g1, g2⟩ | g
    · left; rw [hv j t k g1]; exact g2
    · right; exact forget_go.2 t v g

theorem maskFrom_spec {live : List Nat} : ∀ {regs : Regs} {i : Nat}, (maskFrom live i regs).length = regs.length ∧ ∀ (t : Nat) (v : Value), (maskFrom live i regs).getD t none = some v → regs.getD t none = some v
  | [], i => ⟨rfl, fun t v h => h⟩
  | r :: rs, i => by
    obtain ⟨h1, h2⟩ := maskFrom_spec (live := live) (regs := rs) (i := i + 1)
    refine ⟨by simp [maskFrom, h1], fun t v h => ?_⟩
    cases t with
    | zero =>
      simp only [maskFrom, List.getD_cons_zero] at h ⊢
      split at h
      · exact h
      · cases h
    | succ t =>
      simp only [maskFrom, List.getD_cons_succ] at h ⊢
      exact h2 t v h

theorem maskTo_weak (live : List Nat) (regs : Regs) : Weak regs (maskTo live regs) := fun t v h => maskFrom_spec.2 t v h
theorem maskTo_length (live : List Nat) (regs : Regs) : (maskTo live regs).length = regs.length := maskFrom_spec.1

inductive ExitR : AExit → Exit → Prop
  | normal : ExitR .normal .normal
  | exit (id : Nat) : ExitR (.exit id) (.exit id)
  | ret : ExitR .ret .ret

/-- What a piece of code comes to. -/
def CodePost (P : Program) (c : Code) (K : AExit → Regs → AMem → Option ρ) (r : ρ) (a : Act) (μ : Mu) (σ : AMem) (w : World) (e : Exit) (a' : Act) (w' : World) : Prop :=
  ∃ x regs' σ' μ', ExitR x e ∧ K x regs' σ' = some r ∧ R P μ' σ' w' ∧ Step μ σ w μ' σ' w' ∧ RegR μ' regs' a'.tmps ∧ a'.defers = [] ∧ a'.tmps.size = a.tmps.size ∧ ∀ t, t ∉ dsts c → a'.tmps[t]? = a.tmps[t]?

def CodeOk (P : Program) (c : Code) (regs : Regs) (σ : AMem) (K : AExit → Regs → AMem → Option ρ) (r : ρ) : Prop :=
  (∃ x regs' σ', K x regs' σ' = some r ∧ σ.length ≤ σ'.length) ∧
  ∀ hi, (∀ x regs' σ', K x regs' σ' = some r → σ'.length ≤ hi) → ∀ (a : Act) (μ : Mu) (w : World), R P μ σ w → Fresh μ σ.length hi → RegR μ regs a.tmps → a.defers = [] → c.wp P (CodePost P c K r a μ σ w) a w

theorem mem_dstsOps {l : List Oper} {t : Nat} (h : t ∉ dstsOps l) : ∀ o ∈ l, o.dst ≠ some t := by
  induction l with
  | nil => simp
  | cons o l ih =>
    simp only [dstsOps, List.mem_append, not_or] at h
    intro o' ho'
    rcases List.mem_cons.1 ho' with rfl | ho'
    · intro hd; rw [hd] at h; simp at h
    · exact ih h.2 o' ho'

theorem rounds_mono {c : Code} {Q Q' : Exit → Act → World → Prop} (hq : ∀ e a w, Q e a w → Q' e a w) : ∀ (n : Nat) (a : Act) (w : World), Code.rounds P c Q n a w → Code.rounds P c Q' n a w
  | 0, _, _, h => h.elim
  | n + 1, a, w, h => by
    rw [rounds_succ] at h ⊢
    refine wp_mono h fun e a1 w1 h1 => ?_
    cases e with
    | normal => exact rounds_mono hq n a1 w1 h1
    | _ => exact hq _ _ _ h1

/-- One step of a code that is followed by another. -/
theorem CodeOk.mono_post {c : Code} {K : AExit → Regs → AMem → Option ρ} {r : ρ} {a : Act} {μ : Mu} {σ : AMem} {w : World} {e : Exit} {a' : Act} {w' : World} {c2 : Code} (h : CodePost P c K r a μ σ w e a' w') (hd : ∀ t, t ∉ dsts c2 → t ∉ dsts c) : CodePost P c2 K r a μ σ w e a' w' := by
  obtain ⟨x, regs', σ', μ', h1, h2, h3, h4, h5, h6, h7, h8⟩ := h
  exact ⟨x, regs', σ', μ', h1, h2, h3, h4, h5, h6, h7, fun t ht => h8 t (hd t ht)⟩

theorem exec_ok (hmix : P.follows .mixedOrders = true) {call : CallF} (hcall : CallOk P call) {H : Hints} {n : Nat} : ∀ (c : Code) {ρ : Type} {regs : Regs} {σ : AMem} {K : AExit → Regs → AMem → Option ρ} {r : ρ},
    exec P call H n c ρ regs σ K = some r → CodeOk P c regs σ K r := by
  intro c
  induction c with
  | skip =>
    intro ρ regs σ K r h
    simp only [exec] at h
    exact ⟨⟨_, _, _, h, Nat.le_refl _⟩, fun hi hhi a μ w hR hfr hreg hdef => wp_skip ⟨.normal, regs, σ, μ, .normal, h, hR, Step.refl _ _ _, hreg, hdef, rfl, fun _ _ => rfl⟩⟩
  | region id ops draw =>
    intro ρ regs σ K r h
    simp only [exec] at h
    cases hdr : (draw && !drawOk P ops.toList (needsQuiet P ops.toList draw)) with
    | true => rw [hdr] at h; cases h
    | false =>
      rw [hdr] at h
      simp only [cond_false] at h
      obtain ⟨regs', E', σ', htr, hw, hl, hK⟩ := runOps_tr hcall _ h (Weak.refl _) rfl
      refine ⟨⟨_, _, _, hK, htr.len.1⟩, fun hi hhi a μ w hR hfr hreg hdef => ?_⟩
      have hle := hhi _ _ _ hK
      cases draw with
      | true =>
        have hd : drawOk P ops.toList (needsQuiet P ops.toList true) = true := by simpa using hdr
        refine draw_wp hmix htr hd hle a μ w hR hfr hreg ?_
        intro a' μ' w' h1 h2 h3 h4 h5 h6
        exact ⟨.normal, regs', σ', μ', .normal, hK, h1, h2, h3.weak hw (by omega), h4.trans hdef, h5, fun t ht => h6 t (mem_dstsOps ht)⟩
      | false =>
        refine wp_region ?_
        have := tr_wp (P := P) (all := ops) (Q := CodePost P (.region id ops false) K r a μ σ w) htr (by
          intro io hio
          simp only [List.mem_map] at hio
          obtain ⟨x, hx, rfl⟩ := hio
          have := List.mem_zipIdx_iff_getElem?.1 hx
          simpa using this) hle a μ w hR hfr hreg (by
          intro a' μ' w' h1 h2 h3 h4 h5 h6
          refine ⟨.normal, regs', σ', μ', .normal, hK, h1, h2, h3.weak hw (by omega), h4.trans hdef, h5, fun t ht => h6 t ?_⟩
          intro io hio
          simp only [List.mem_map] at hio
          obtain ⟨x, hx, rfl⟩ := hio
          have := List.mem_zipIdx_iff_getElem?.1 hx
          exact mem_dstsOps ht _ (List.mem_of_getElem? this))
        have hm : (ops.toList.zipIdx.map fun x => (x.2, x.1)).map (·.1) = List.range ops.size := by
          rw [List.map_map]
          show ops.toList.zipIdx.map (fun x => x.2) = _
          simp [List.zipIdx_map_snd, List.range_eq_range']
        rw [hm] at this
        exact this
  | seq x y ihx ihy =>
    intro ρ regs σ K r h
    simp only [exec] at h
    obtain ⟨⟨x1, regs1, σ1, hK1, hl1⟩, hwp⟩ := ihx h
    have hb : ∀ (x : AExit) (regs' : Regs) (σ' : AMem), (match x with
        | .normal => exec P call H n y ρ regs' σ' K
        | .exit id => K (.exit id) regs' σ'
        | .ret => K .ret regs' σ') = some r → ∃ x2 regs2 σ2, K x2 regs2 σ2 = some r ∧ σ'.length ≤ σ2.length := by
      intro x regs' σ' hq
      cases x with
      | normal => exact (ihy hq).1
      | exit id => exact ⟨_, _, _, hq, Nat.le_refl _⟩
      | ret => exact ⟨_, _, _, hq, Nat.le_refl _⟩
    refine ⟨?_, fun hi hhi a μ w hR hfr hreg hdef => ?_⟩
    · obtain ⟨x2, regs2, σ2, h1, h2⟩ := hb x1 regs1 σ1 hK1
      exact ⟨x2, regs2, σ2, h1, Nat.le_trans hl1 h2⟩
    · refine wp_seq (wp_mono (hwp hi (fun x' regs' σ' hq => ?_) a μ w hR hfr hreg hdef) ?_)
      · obtain ⟨x2, regs2, σ2, h1, h2⟩ := hb x' regs' σ' hq
        exact Nat.le_trans h2 (hhi _ _ _ h1)
      · rintro e a1 w1 ⟨x', regs', σ', μ', hx, hq, g1, g2, g3, g4, g5, g6⟩
        cases hx with
        | normal =>
          simp only [Exit.then]
          refine wp_mono ((ihy hq).2 hi hhi a1 μ' w1 g1 (hfr.step g2) g3 g4) ?_
          rintro e2 a2 w2 ⟨x2, regs2, σ2, μ2, k1, k2, k3, k4, k5, k6, k7, k8⟩
          exact ⟨x2, regs2, σ2, μ2, k1, k2, k3, g2.trans k4, k5, k6, k7.trans g5, fun t ht => by
            simp only [dsts, List.mem_append, not_or] at ht
            rw [k8 t ht.2, g6 t ht.1]⟩
        | exit id =>
          exact ⟨.exit id, regs', σ', μ', .exit id, hq, g1, g2, g3, g4, g5, fun t ht => g6 t (by simp only [dsts, List.mem_append, not_or] at ht; exact ht.1)⟩
        | ret =>
          exact ⟨.ret, regs', σ', μ', .ret, hq, g1, g2, g3, g4, g5, fun t ht => g6 t (by simp only [dsts, List.mem_append, not_or] at ht; exact ht.1)⟩
  | cond c x y ihx ihy =>
    intro ρ regs σ K r h
    simp only [exec] at h
    split at h
    rotate_left
    · cases h
    rename_i b hb
    split at h
    · -- each way by itself
      cases b with
      | true =>
        simp only [cond_true] at h
        obtain ⟨hlen, hwp⟩ := ihx h
        refine ⟨hlen, fun hi hhi a μ w hR hfr hreg hdef => ?_⟩
        have hc := hreg.ev c _ hb
        refine wp_cond_true (by generalize a.eval c = v at hc; cases hc; rfl) (wp_mono (hwp hi hhi a μ w hR hfr hreg hdef) fun e a' w' hq => CodeOk.mono_post hq fun t ht => by simp only [dsts, List.mem_append, not_or] at ht; exact ht.1)
      | false =>
        simp only [cond_false] at h
        obtain ⟨hlen, hwp⟩ := ihy h
        refine ⟨hlen, fun hi hhi a μ w hR hfr hreg hdef => ?_⟩
        have hc := hreg.ev c _ hb
        refine wp_cond_false (by generalize a.eval c = v at hc; cases hc; rfl) (wp_mono (hwp hi hhi a μ w hR hfr hreg hdef) fun e a' w' hq => CodeOk.mono_post hq fun t ht => by simp only [dsts, List.mem_append, not_or] at ht; exact ht.2)
    · -- the ways meet again
      rename_i hint hH
      simp only [Option.bind_eq_some_iff] at h
      obtain ⟨r1, h1, h2⟩ := h
      have join : ∀ (z : Code), (∀ t, t ∉ dsts (.seq x y) → t ∉ dsts z) → CodeOk P z regs σ (pack hint.exits) r1 →
          (∃ x' regs' σ', K x' regs' σ' = some r ∧ σ.length ≤ σ'.length) ∧ ∀ hi, (∀ x' regs' σ', K x' regs' σ' = some r → σ'.length ≤ hi) → ∀ (a : Act) (μ : Mu) (w : World), R P μ σ w → Fresh μ σ.length hi → RegR μ regs a.tmps → a.defers = [] → z.wp P (CodePost P (.cond c x y) K r a μ σ w) a w := by
        intro z hz ⟨⟨x1, regs1, σ1, hp1, hl1⟩, hwp⟩
        refine ⟨?_, fun hi hhi a μ w hR hfr hreg hdef => ?_⟩
        · obtain ⟨regs2, g1, g2, g3⟩ := unpack_spec hp1 h2
          exact ⟨x1, regs2, σ1, g1, hl1⟩
        · refine wp_mono (hwp hi (fun x' regs' σ' hq => ?_) a μ w hR hfr hreg hdef) ?_
          · obtain ⟨regs2, g1, _, _⟩ := unpack_spec hq h2
            exact hhi _ _ _ g1
          · rintro e a1 w1 ⟨x', regs', σ', μ', hx, hq, g1, g2, g3, g4, g5, g6⟩
            obtain ⟨regs2, k1, k2, k3⟩ := unpack_spec hq h2
            have hle : μ.le μ' := g2.le (hfr.sub (Nat.le_refl _) (hhi _ _ _ k1))
            refine ⟨x', regs2, σ', μ', hx, k1, g1, g2, ⟨by rw [k2, g5]; exact hreg.1, fun t v hv => ?_⟩, g4, g5, fun t ht => g6 t (hz t ht)⟩
            rcases k3 t v hv with hv | ⟨ht, hv⟩
            · exact g3.2 t v hv
            · obtain ⟨v', q1, q2⟩ := hreg.2 t v hv
              exact ⟨v', by rw [g6 t (hz t ht)]; exact q1, q2.mono hle⟩
      cases b with
      | true =>
        simp only [cond_true] at h1
        obtain ⟨j1, j2⟩ := join x (fun t ht => by simp only [dsts, List.mem_append, not_or] at ht; exact ht.1) (ihx h1)
        refine ⟨j1, fun hi hhi a μ w hR hfr hreg hdef => ?_⟩
        have hc := hreg.ev c _ hb
        exact wp_cond_true (by generalize a.eval c = v at hc; cases hc; rfl) (j2 hi hhi a μ w hR hfr hreg hdef)
      | false =>
        simp only [cond_false] at h1
        obtain ⟨j1, j2⟩ := join y (fun t ht => by simp only [dsts, List.mem_append, not_or] at ht; exact ht.2) (ihy h1)
        refine ⟨j1, fun hi hhi a μ w hR hfr hreg hdef => ?_⟩
        have hc := hreg.ev c _ hb
        exact wp_cond_false (by generalize a.eval c = v at hc; cases hc; rfl) (j2 hi hhi a μ w hR hfr hreg hdef)
  | block id c ih =>
    intro ρ regs σ K r h
    simp only [exec] at h
    obtain ⟨⟨x1, regs1, σ1, hK1, hl1⟩, hwp⟩ := ih h
    have hb : ∀ (x : AExit) (regs' : Regs) (σ' : AMem), (match x with
        | .normal => K .normal regs' σ'
        | .exit id' => if id' = id then K .normal regs' σ' else K (.exit id') regs' σ'
        | .ret => K .ret regs' σ') = some r → ∃ x2, K x2 regs' σ' = some r ∧ (∀ e, ExitR x e → ∀ (Q : Exit → Act → World → Prop) a w, (∀ e2, ExitR x2 e2 → Q e2 a w) → Exit.inBlock id Q e a w) := by
      intro x regs' σ' hq
      cases x with
      | normal => exact ⟨_, hq, fun e he Q a w hQ => by cases he; exact hQ _ .normal⟩
      | exit id' =>
        simp only at hq
        split at hq
        · rename_i hid
          refine ⟨_, hq, fun e he Q a w hQ => ?_⟩
          cases he
          simp only [Exit.inBlock, hid, if_true]
          exact hQ _ .normal
        · rename_i hid
          refine ⟨_, hq, fun e he Q a w hQ => ?_⟩
          cases he
          simp only [Exit.inBlock, hid, if_false]
          exact hQ _ (.exit id')
      | ret => exact ⟨_, hq, fun e he Q a w hQ => by cases he; exact hQ _ .ret⟩
    refine ⟨?_, fun hi hhi a μ w hR hfr hreg hdef => ?_⟩
    · obtain ⟨x2, h2, _⟩ := hb x1 regs1 σ1 hK1
      exact ⟨x2, regs1, σ1, h2, hl1⟩
    · refine wp_block (wp_mono (hwp hi (fun x' regs' σ' hq => ?_) a μ w hR hfr hreg hdef) ?_)
      · obtain ⟨x2, h2, _⟩ := hb x' regs' σ' hq
        exact hhi _ _ _ h2
      · rintro e a1 w1 ⟨x', regs', σ', μ', hx, hq, g1, g2, g3, g4, g5, g6⟩
        obtain ⟨x2, h2, h3⟩ := hb x' regs' σ' hq
        exact h3 e hx _ a1 w1 fun e2 he2 => ⟨x2, regs', σ', μ', he2, h2, g1, g2, g3, g4, g5, g6⟩
  | loop c ih =>
    intro ρ regs σ K r h
    simp only [exec] at h
    split at h
    · cases h
    rename_i hint hH
    simp only [Option.bind_eq_some_iff] at h
    obtain ⟨r1, h1, h2⟩ := h
    -- the rounds
    have rounds : ∀ (m : Nat) (regs1 : Regs) (σ1 : AMem), loopF (fun regs σ K => exec P call H n c LOut regs σ K) hint m regs1 σ1 = some r1 →
        (∃ x' regs', pack hint.exits x' regs' r1.2.2 = some r1 ∧ σ1.length ≤ r1.2.2.length) ∧
        ∀ hi, r1.2.2.length ≤ hi → ∀ (a : Act) (μ : Mu) (w : World), R P μ σ1 w → Fresh μ σ1.length hi → RegR μ regs1 a.tmps → a.defers = [] →
          Code.rounds P c (fun e a' w' => ∃ x' regs' μ', ExitR x' e ∧ x' ≠ .normal ∧ pack hint.exits x' regs' r1.2.2 = some r1 ∧ R P μ' r1.2.2 w' ∧ Step μ σ1 w μ' r1.2.2 w' ∧ RegR μ' regs' a'.tmps ∧ a'.defers = [] ∧ a'.tmps.size = a.tmps.size ∧ ∀ t, t ∉ dsts c → a'.tmps[t]? = a.tmps[t]?) m a w := by
      intro m
      induction m with
      | zero => intro regs1 σ1 hq; cases hq
      | succ m ihm =>
        intro regs1 σ1 hq
        simp only [loopF] at hq
        obtain ⟨⟨x1, regs2, σ2, hK1, hl1⟩, hwp⟩ := ih hq
        have hpk : ∀ (x : AExit) (regs' : Regs) (σ' : AMem), pack hint.exits x regs' σ' = some r1 → σ' = r1.2.2 := by
          intro x regs' σ' hp
          unfold pack at hp
          simp only [Option.bind_eq_some_iff] at hp
          obtain ⟨outs, _, hp⟩ := hp
          obtain ⟨vs, _, _, hk⟩ := packs_spec hp
          cases hk; rfl
        have hb : ∀ (x : AExit) (regs' : Regs) (σ' : AMem), (match x with
            | .normal => loopF (fun regs σ K => exec P call H n c LOut regs σ K) hint m (maskTo hint.live regs') σ'
            | x => pack hint.exits x regs' σ') = some r1 → σ'.length ≤ r1.2.2.length := by
          intro x regs' σ' hq
          cases x with
          | normal => obtain ⟨_, _, _, hl⟩ := (ihm _ _ hq).1; exact hl
          | exit id => rw [hpk _ _ _ hq]; exact Nat.le_refl _
          | ret => rw [hpk _ _ _ hq]; exact Nat.le_refl _
        refine ⟨?_, fun hi hhi a μ w hR hfr hreg hdef => ?_⟩
        · cases x1 with
          | normal => obtain ⟨x', regs', hp, hl⟩ := (ihm _ _ hK1).1; exact ⟨x', regs', hp, Nat.le_trans hl1 hl⟩
          | exit id => have := hpk _ _ _ hK1; subst this; exact ⟨_, _, hK1, hl1⟩
          | ret => have := hpk _ _ _ hK1; subst this; exact ⟨_, _, hK1, hl1⟩
        · rw [rounds_succ]
          refine wp_mono (hwp hi (fun x' regs' σ' hq => Nat.le_trans (hb x' regs' σ' hq) hhi) a μ w hR hfr hreg hdef) ?_
          rintro e a1 w1 ⟨x', regs', σ', μ', hx, hq, g1, g2, g3, g4, g5, g6⟩
          cases hx with
          | normal =>
            simp only [Exit.then]
            have := (ihm _ _ hq).2 hi hhi a1 μ' w1 g1 (hfr.step g2) (g3.weak (maskTo_weak _ _) (by rw [maskTo_length]; exact Nat.le_refl _)) g4
            refine rounds_mono ?_ _ _ _ this
            rintro e2 a2 w2 ⟨x2, regs2, μ2, k1, k1', k2, k3, k4, k5, k6, k7, k8⟩
            exact ⟨x2, regs2, μ2, k1, k1', k2, k3, g2.trans k4, k5, k6, k7.trans g5, fun t ht => by rw [k8 t ht, g6 t ht]⟩
          | exit id =>
            have := hpk _ _ _ hq; subst this
            exact ⟨.exit id, regs', μ', .exit id, by simp, hq, g1, g2, g3, g4, g5, g6⟩
          | ret =>
            have := hpk _ _ _ hq; subst this
            exact ⟨.ret, regs', μ', .ret, by simp, hq, g1, g2, g3, g4, g5, g6⟩
    obtain ⟨⟨x1, regs1, hp1, hl1⟩, hwp⟩ := rounds n _ _ h1
    refine ⟨?_, fun hi hhi a μ w hR hfr hreg hdef => ?_⟩
    · obtain ⟨regs2, g1, _, _⟩ := unpack_spec hp1 h2
      exact ⟨x1, regs2, _, g1, hl1⟩
    · obtain ⟨regs2', g1', _, _⟩ := unpack_spec hp1 h2
      have hle' := hhi _ _ _ g1'
      refine wp_loop_rounds n (rounds_mono ?_ _ _ _ (hwp hi hle' a μ w hR hfr (hreg.weak (maskTo_weak _ _) (by rw [maskTo_length]; exact Nat.le_refl _)) hdef))
      rintro e a1 w1 ⟨x', regs', μ', hx, _, hq, g1, g2, g3, g4, g5, g6⟩
      obtain ⟨regs2, k1, k2, k3⟩ := unpack_spec hq h2
      have hle : μ.le μ' := g2.le (hfr.sub (Nat.le_refl _) hle')
      refine ⟨x', regs2, _, μ', hx, k1, g1, g2, ⟨by rw [k2, g5]; exact hreg.1, fun t v hv => ?_⟩, g4, g5, g6⟩
      rcases k3 t v hv with hv | ⟨ht, hv⟩
      · exact g3.2 t v hv
      · obtain ⟨v', q1, q2⟩ := hreg.2 t v hv
        exact ⟨v', by rw [g6 t ht]; exact q1, q2.mono hle⟩
  | exit id =>
    intro ρ regs σ K r h
    simp only [exec] at h
    exact ⟨⟨_, _, _, h, Nat.le_refl _⟩, fun hi hhi a μ w hR hfr hreg hdef => wp_exit ⟨.exit id, regs, σ, μ, .exit id, h, hR, Step.refl _ _ _, hreg, hdef, rfl, fun _ _ => rfl⟩⟩
  | ret =>
    intro ρ regs σ K r h
    simp only [exec] at h
    exact ⟨⟨_, _, _, h, Nat.le_refl _⟩, fun hi hhi a μ w hR hfr hreg hdef => wp_ret ⟨.ret, regs, σ, μ, .ret, h, hR, Step.refl _ _ _, hreg, hdef, rfl, fun _ _ => rfl⟩⟩
  | _ => intros; rename_i h; simp only [exec] at h; cases h

end Go.AX
