/-
  Regions whose order is drawn: every order comes to what the order of the text comes to.
-/
import Derived.Test.YtilefhlamdiomaaGreatAX15
set_option linter.unusedSimpArgs false
set_option linter.unusedVariables false
set_option linter.unusedSectionVars false
namespace Go.AX
open Go
variable {ρ : Type} {P : Program} [Quiet]

section
variable {qf : Nat → QF} {ops : List Oper} {E0 E' : Regs} {σ0 σ' : AMem}

def L (listed : Array Bool) (j : Nat) : Prop := listed.getD j false = true

theorem Data.ef_len (D : Data P qf ops E0 σ0 E' σ') : ∀ k, k ≤ ops.length → (D.Ef k).length = E0.length
  | 0, _ => by rw [D.e0]
  | k + 1, h => by
    rw [(D.step k _ (List.getElem?_eq_getElem h)).1, putr_length]; exact D.ef_len k (by omega)

theorem Data.sf_len (D : Data P qf ops E0 σ0 E' σ') {k : Nat} (h : k < ops.length) : (D.Sf k).length ≤ (D.Sf (k + 1)).length := by
  rcases (D.step k _ (List.getElem?_eq_getElem h)).2 with ⟨_, _, _, hf⟩ | ⟨_, _, hs⟩
  · exact hf.len
  · rw [hs]; exact Nat.le_refl _

theorem Data.sf_mono (D : Data P qf ops E0 σ0 E' σ') {i : Nat} : ∀ m, i ≤ m → m ≤ ops.length → (D.Sf i).length ≤ (D.Sf m).length := by
  intro m hm
  induction hm with
  | refl => intro _; exact Nat.le_refl _
  | step hm ih => intro h; exact Nat.le_trans (ih (by omega)) (D.sf_len h)

theorem clsD_cls0 {k : Nat} {o : Oper} (ho : ops[k]? = some o) (h : clsD P ops qf k ≠ .lo) : (clsD P ops qf k = cls0 P o ∧ (isCallV o = true → (qf k).1 = true)) ∨ (isApp o = true ∧ (qf k).1 = true ∧ clsD P ops qf k = .al) := by
  unfold clsD at h ⊢
  rw [ho] at h ⊢
  simp only at h ⊢
  cases hc : (isCallV o && !(qf k).1) with
  | true => rw [hc] at h; exact absurd rfl h
  | false =>
    rw [cond_false]
    cases ha : (isApp o && (qf k).1) with
    | true =>
      rw [cond_true]
      simp only [Bool.and_eq_true] at ha
      exact .inr ⟨ha.1, ha.2, rfl⟩
    | false =>
      rw [cond_false]
      refine .inl ⟨rfl, fun hi => ?_⟩
      rw [hi] at hc; simpa using hc

theorem clsD_pure {k : Nat} {o : Oper} (ho : ops[k]? = some o) (h : clsD P ops qf k = .pure) : cls0 P o = .pure := by
  rcases clsD_cls0 (P := P) (qf := qf) ho (by rw [h]; simp) with ⟨h1, _⟩ | ⟨_, _, h1⟩
  · rw [← h1]; exact h
  · rw [h] at h1; cases h1

theorem isCallV_of {o : Oper} {c : Call} (ho : o.op = .call c) (h : cls0 P o = .al) : isCallV o = true := by
  unfold isCallV
  rw [ho]
  cases hcal : c.callee with
  | builtin b =>
    simp only [cls0, ho, hcal] at h
    cases b <;> cases hm : isMapT P c.argTypes.toList <;> simp [hm, clsB] at h
  | invoke r m => simp only [hcal]
  | value f => simp only [hcal]

theorem Data.quiet (D : Data P qf ops E0 σ0 E' σ') {k : Nat} (h : k < ops.length) (hc : clsD P ops qf k ≠ .lo) : D.Sf k <+: D.Sf (k + 1) := by
  have ho := List.getElem?_eq_getElem h
  rcases clsD_cls0 (P := P) (qf := qf) ho hc with ⟨hcl, hq⟩ | ⟨happ, hqk, _⟩
  rotate_left
  · rcases (D.step k _ ho).2 with ⟨_, _, _, hf⟩ | ⟨_, _, hs⟩
    · exact hf.app happ hqk
    · rw [hs]; exact List.prefix_refl _
  rcases (D.step k _ ho).2 with ⟨_, _, _, hf⟩ | ⟨_, _, hs⟩
  · cases hcc : cls0 P ops[k] with
    | pure => rw [(hf.pure hcc).1]; exact List.prefix_refl _
    | ld => rw [hf.ld hcc]; exact List.prefix_refl _
    | al =>
      refine hf.al hcc ?_
      by_cases hcall : ∃ c, ops[k].op = .call c
      · obtain ⟨c, hc'⟩ := hcall
        exact .inr (hq (isCallV_of hc' hcc))
      · exact .inl fun c hc' => hcall ⟨c, hc'⟩
    | lo => exact absurd (hcl.trans hcc) hc
  · rw [hs]; exact List.prefix_refl _

theorem Data.chain (D : Data P qf ops E0 σ0 E' σ') {i : Nat} : ∀ m, i ≤ m → m ≤ ops.length → (∀ k, i ≤ k → k < m → clsD P ops qf k ≠ .lo) → D.Sf i <+: D.Sf m := by
  intro m hm
  induction hm with
  | refl => intro _ _; exact List.prefix_refl _
  | step hm ih => intro h hk; exact (ih (by omega) fun k h1 h2 => hk k h1 (by omega)).trans (D.quiet h (hk _ hm (by omega)))

theorem Data.ef_same (D : Data P qf ops E0 σ0 E' σ') {i t : Nat} : ∀ m, i ≤ m → m ≤ ops.length → (∀ k o, i ≤ k → k < m → ops[k]? = some o → o.dst ≠ some t) → (D.Ef m).getD t none = (D.Ef i).getD t none := by
  intro m hm
  induction hm with
  | refl => intro _ _; rfl
  | @step m hm ih =>
    intro h hk
    have ho := List.getElem?_eq_getElem h
    rw [(D.step m _ ho).1, getD_putr_other (hk m _ hm (by omega) ho)]
    exact ih (by omega) fun k o h1 h2 => hk k o h1 (by omega)

theorem next_lo (P : Program) (qf : Nat → QF) (ops : List Oper) : ∀ (d i : Nat), i + d = ops.length → ∃ m, i ≤ m ∧ m ≤ ops.length ∧ (∀ k, i ≤ k → k < m → clsD P ops qf k ≠ .lo) ∧ (m = ops.length ∨ clsD P ops qf m = .lo)
  | 0, i, h => ⟨i, Nat.le_refl _, by omega, fun k h1 h2 => absurd h2 (by omega), .inl (by omega)⟩
  | d + 1, i, h => by
    by_cases hc : clsD P ops qf i = .lo
    · exact ⟨i, Nat.le_refl _, by omega, fun k h1 h2 => absurd h2 (by omega), .inr hc⟩
    · obtain ⟨m, h1, h2, h3, h4⟩ := next_lo P qf ops d (i + 1) (by omega)
      refine ⟨m, by omega, h2, fun k hk1 hk2 => ?_, h4⟩
      by_cases hki : k = i
      · subst hki; exact hc
      · exact h3 k (by omega) hk2

theorem fresh_chain (D : Data P qf ops E0 σ0 E' σ') {μ : Mu} {i : Nat} : ∀ m, i ≤ m → m ≤ ops.length → (∀ k, i ≤ k → k < m → Fresh μ (D.Sf k).length (D.Sf (k + 1)).length) → Fresh μ (D.Sf i).length (D.Sf m).length := by
  intro m hm
  induction hm with
  | refl => intro _ _ h h1 h2; omega
  | @step m hm ih =>
    intro hl hk h h1 h2
    by_cases hlt : h < (D.Sf m).length
    · exact ih (by omega) (fun k a b => hk k a (by omega)) h h1 hlt
    · exact hk m hm (by omega) h (by omega) h2

theorem writable_prefix {σ σ2 : AMem} (hp : σ <+: σ2) {h : Nat} (hl : h < σ.length) : writable σ2 h = writable σ h := by
  obtain ⟨t, rfl⟩ := hp
  unfold writable; rw [List.getElem?_append_left hl]

/-! Loads in no order with calls. -/

theorem far_ld {i j : Nat} (h : farOk ops qf i j = true) : ∃ t o T a, ops[j]? = some o ∧ o.op = .load T (.tmp a) ∧ farBase ops j = some t ∧ rootN ops 8 a j = some t ∧ t ∈ (qf i).2 := by
  unfold farOk at h
  split at h
  rotate_left
  · cases h
  rename_i t ht
  have hc : t ∈ (qf i).2 := by simpa using h
  have ht0 := ht
  unfold farBase at ht
  split at ht
  rotate_left
  · cases ht
  rename_i o ho
  split at ht
  rotate_left
  · cases ht
  rename_i T a hop
  exact ⟨t, o, T, a, ho, hop, ht0, ht, hc⟩

theorem far_base {j t : Nat} (ht : farBase ops j = some t) : ∃ o T a, ops[j]? = some o ∧ o.op = .load T (.tmp a) ∧ rootN ops 8 a j = some t := by
  unfold farBase at ht
  split at ht
  rotate_left
  · cases ht
  rename_i o ho
  split at ht
  rotate_left
  · cases ht
  rename_i T a hop
  exact ⟨o, T, a, ho, hop, ht⟩

theorem load_cls {j : Nat} {o : Oper} {T : TypeId} {x : Operand} (ho : ops[j]? = some o) (hop : o.op = .load T x) : clsD P ops qf j = .ld ∧ cls0 P o = .ld := by
  have h0 : cls0 P o = .ld := by unfold cls0; rw [hop]
  have h1 : isCallV o = false := by unfold isCallV; rw [hop]
  have h2 : isApp o = false := by unfold isApp; rw [hop]
  refine ⟨?_, h0⟩
  unfold clsD
  rw [ho]
  simp only [h1, h2, Bool.false_and, cond_false]
  exact h0

theorem Data.load_same (D : Data P qf ops E0 σ0 E' σ') {j : Nat} {o : Oper} {T : TypeId} {x : Operand} (ho : ops[j]? = some o) (hop : o.op = .load T x) : D.Sf (j + 1) = D.Sf j := by
  rcases (D.step j o ho).2 with ⟨_, _, _, hf⟩ | ⟨_, _, hs⟩
  · exact hf.ld (load_cls (qf := qf) ho hop).2
  · exact hs

theorem DrawOk.lo_lo (hd : DrawOk P ops qf) {i j : Nat} (hi : i < ops.length) (hj : j < ops.length) (hij : i ≠ j) (hc : clsD P ops qf i = .lo) (hcj : clsD P ops qf j = .lo) : ordered (befs ops []) i j = true := by
  rcases hd.mem i j hi hj hij hc (by rw [hcj]; simp) with h | h
  · exact h
  · obtain ⟨t, o, T, a, ho, hop, _⟩ := far_ld h
    rw [(load_cls (P := P) (qf := qf) ho hop).1] at hcj
    cases hcj

theorem DrawOk.near (hd : DrawOk P ops qf) {i j : Nat} (hi : i < ops.length) (hj : j < ops.length) (hij : i ≠ j) (hc : clsD P ops qf i = .lo) (hcj : clsD P ops qf j ≠ .pure) (hn : farBase ops j = none) : ordered (befs ops []) i j = true := by
  rcases hd.mem i j hi hj hij hc hcj with h | h
  · exact h
  · obtain ⟨t, o, T, a, ho, hop, hb, _⟩ := far_ld h
    rw [hn] at hb; cases hb

/-- What is known of memory when some operations are listed. -/
structure MemInv (D : Data P qf ops E0 σ0 E' σ') (hi : Nat) (μ0 : Mu) (w0 : World) (listed : Array Bool) (μ : Mu) (w : World) : Prop where
  mem : ∃ m, m ≤ ops.length ∧ (∀ j, j < ops.length → clsD P ops qf j = .lo → (L listed j ↔ j < m)) ∧ (m = ops.length ∨ clsD P ops qf m = .lo) ∧ R P μ (D.Sf m) w
  fresh : ∀ j, j < ops.length → ¬ L listed j → Fresh μ (D.Sf j).length (D.Sf (j + 1)).length
  mu : ∀ h, (h < (D.Sf 0).length ∨ (D.Sf ops.length).length ≤ h) → μ h = μ0 h
  new : ∀ h k, (D.Sf 0).length ≤ h → h < (D.Sf ops.length).length → μ h = some k → w0.heap.size ≤ k.b ∨ ∃ h0 k0, h0 < (D.Sf 0).length ∧ μ0 h0 = some k0 ∧ k0.b = k.b ∧ writable (D.Sf 0) h0
  wr : ∀ j, j < ops.length → L listed j → ∀ h, h < (D.Sf j).length → writable (D.Sf (j + 1)) h → writable (D.Sf j) h
  size : w0.heap.size ≤ w.heap.size
  tape : w.tape = w0.tape
  os : w.os = w0.os
  output : w.output = w0.output
  frame : ∀ b, b < w0.heap.size → (∀ h k, h < (D.Sf 0).length → μ0 h = some k → k.b = b → ¬ writable (D.Sf 0) h) → w.heap[b]? = w0.heap[b]?

theorem L_set {listed : Array Bool} {i j : Nat} (hi : i < listed.size) : L (listed.setIfInBounds i true) j ↔ j = i ∨ L listed j := by
  unfold L
  by_cases h : i = j
  · subst h; simp [hi]
  · rw [getD_set_ne false h]
    constructor
    · exact .inr
    · rintro (rfl | h')
      · exact absurd rfl h
      · exact h'

/-- What an operation that is ready knows of the others. -/
structure Ready (P : Program) (qf : Nat → QF) (ops : List Oper) (listed : Array Bool) (i : Nat) : Prop where
  lt : i < ops.length
  size : listed.size = ops.length
  un : ¬ L listed i
  ord : ∀ j, j ≠ i → ordered (befs ops []) i j = true → (L listed j ↔ j < i)

variable {hi : Nat} {μ0 μ : Mu} {w0 w : World} {listed : Array Bool} {i : Nat}

theorem MemInv.idle {D : Data P qf ops E0 σ0 E' σ'} (hd : DrawOk P ops qf) (h : MemInv D hi μ0 w0 listed μ w) (hr : Ready P qf ops listed i) (hs : D.Sf (i + 1) = D.Sf i) : MemInv D hi μ0 w0 (listed.setIfInBounds i true) μ w := by
  have hset : ∀ j, L (listed.setIfInBounds i true) j ↔ j = i ∨ L listed j := fun j => L_set (by rw [hr.size]; exact hr.lt)
  refine ⟨?_, fun j hj hl => h.fresh j hj fun hl' => hl ((hset j).2 (.inr hl')), h.mu, h.new, ?_, h.size, h.tape, h.os, h.output, h.frame⟩
  · obtain ⟨m, hm, hlo, hml, hR⟩ := h.mem
    by_cases hc : clsD P ops qf i = .lo
    · have hmi : m = i := by
        have hi' := hlo i hr.lt hc
        have him : ¬ i < m := fun hlt => hr.un (hi'.2 hlt)
        rcases hml with rfl | hml
        · exact absurd hr.lt him
        · by_cases hne : m = i
          · exact hne
          · have hmn : m < ops.length := by have := hr.lt; omega
            have := (hlo m hmn hml)
            have h2 := hr.ord m hne (hd.lo_lo hr.lt hmn (Ne.symm hne) hc hml)
            have : L listed m := h2.2 (by omega)
            have := (hlo m hmn hml).1 this
            omega
      subst hmi
      obtain ⟨m', h1, h2, h3, h4⟩ := next_lo P qf ops (ops.length - (m + 1)) (m + 1) (by have := hr.lt; omega)
      refine ⟨m', h2, ?_, h4, ?_⟩
      · intro j hj hcj
        rw [hset]
        by_cases hjm : j = m
        · subst hjm; simp; omega
        · have := hlo j hj hcj
          constructor
          · rintro (h | h)
            · exact absurd h hjm
            · have := this.1 h; omega
          · intro hlt
            right
            apply this.2
            apply Classical.byContradiction
            intro hge
            exact h3 j (by omega) hlt hcj
      · have hp := D.chain (i := m + 1) m' h1 h2 h3
        rw [← hs] at hR
        refine hR.extend hp (fresh_chain D m' h1 h2 fun k hk1 hk2 => ?_)
        by_cases hkp : clsD P ops qf k = .pure
        · have hcl := clsD_pure (P := P) (qf := qf) (List.getElem?_eq_getElem (show k < ops.length by omega)) hkp
          rcases (D.step k _ (List.getElem?_eq_getElem (show k < ops.length by omega))).2 with ⟨_, _, _, hf⟩ | ⟨_, _, hsk⟩
          · rw [(hf.pure hcl).1]; intro x a b; omega
          · rw [hsk]; intro x a b; omega
        · rcases hd.mem m k hr.lt (by omega) (by omega) hc hkp with hord | hfar
          · refine h.fresh k (by omega) fun hl => ?_
            have := (hr.ord k (by omega) hord).1 hl
            omega
          · obtain ⟨_, o, T, a, ho, hop, _⟩ := far_ld hfar
            rw [D.load_same ho hop]; intro x a b; omega
    · refine ⟨m, hm, ?_, hml, hR⟩
      intro j hj hcj
      rw [hset]
      have hji : j ≠ i := by rintro rfl; exact hc hcj
      simp only [hji, false_or]
      exact hlo j hj hcj
  · intro j hj hl x hx hw
    by_cases hji : j = i
    · subst hji; rw [hs] at hw; exact hw
    · exact h.wr j hj (((hset j).1 hl).resolve_left hji) x hx hw

/-- Where an operation that touches memory stands. -/
theorem MemInv.at {D : Data P qf ops E0 σ0 E' σ'} (hd : DrawOk P ops qf) (h : MemInv D hi μ0 w0 listed μ w) (hr : Ready P qf ops listed i) (hc : clsD P ops qf i ≠ .pure) (hn : farBase ops i = none) :
    ∃ m, m ≤ ops.length ∧ (∀ j, j < ops.length → clsD P ops qf j = .lo → (L listed j ↔ j < m)) ∧ (m = ops.length ∨ clsD P ops qf m = .lo) ∧ R P μ (D.Sf m) w ∧ i ≤ m ∧ (∀ k, i ≤ k → k < m → clsD P ops qf k ≠ .lo) ∧ (clsD P ops qf i = .lo → m = i) := by
  obtain ⟨m, hm, hlo, hml, hR⟩ := h.mem
  have him : i ≤ m := by
    apply Classical.byContradiction
    intro hlt
    have hmn : m < ops.length := by have := hr.lt; omega
    have hcm : clsD P ops qf m = .lo := hml.resolve_left (by omega)
    have hord := hd.near hmn hr.lt (by omega) hcm hc hn
    have hord' : ordered (befs ops []) i m = true := by unfold ordered at hord ⊢; rw [Bool.or_comm]; exact hord
    have := (hr.ord m (by omega) hord').2 (by omega)
    have := (hlo m hmn hcm).1 this
    omega
  have hbt : ∀ k, i ≤ k → k < m → clsD P ops qf k ≠ .lo := by
    intro k hk1 hk2 hck
    have hl := (hlo k (by omega) hck).2 hk2
    by_cases hki : k = i
    · subst hki; exact hr.un hl
    · have hord := hd.near (by omega) hr.lt hki hck hc hn
      have hord' : ordered (befs ops []) i k = true := by unfold ordered at hord ⊢; rw [Bool.or_comm]; exact hord
      have := (hr.ord k hki hord').1 hl
      omega
  refine ⟨m, hm, hlo, hml, hR, him, hbt, fun hci => ?_⟩
  apply Classical.byContradiction
  intro hne
  exact hbt i (Nat.le_refl _) (by omega) hci

theorem MemInv.run {D : Data P qf ops E0 σ0 E' σ'} (hd : DrawOk P ops qf) (h : MemInv D hi μ0 w0 listed μ w) (hr : Ready P qf ops listed i) (hc : clsD P ops qf i ≠ .pure) (hnf : farBase ops i = none) :
    R P μ (D.Sf i) w ∧ ∀ (μ' : Mu) (w' : World), Step μ (D.Sf i) w μ' (D.Sf (i + 1)) w' → R P μ' (D.Sf (i + 1)) w' → MemInv D hi μ0 w0 (listed.setIfInBounds i true) μ' w' := by
  have hset : ∀ j, L (listed.setIfInBounds i true) j ↔ j = i ∨ L listed j := fun j => L_set (by rw [hr.size]; exact hr.lt)
  obtain ⟨m, hm, hlo, hml, hR, him, hbt, hmi⟩ := h.at hd hr hc hnf
  have hpre : D.Sf i <+: D.Sf m := D.chain m him hm hbt
  refine ⟨hR.pre hpre, fun μ' w' hS hR' => ?_⟩
  have hfi := h.fresh i hr.lt hr.un
  have hlt := hr.lt
  have hl0 : (D.Sf 0).length ≤ (D.Sf i).length := D.sf_mono i (Nat.zero_le _) (by omega)
  have hln : (D.Sf (i + 1)).length ≤ (D.Sf ops.length).length := D.sf_mono ops.length hlt (Nat.le_refl _)
  have hli : (D.Sf i).length ≤ (D.Sf ops.length).length := D.sf_mono ops.length (by omega) (Nat.le_refl _)
  -- what was writable at the begin
  have hw0 : ∀ k, k ≤ i → ∀ x, x < (D.Sf 0).length → writable (D.Sf k) x → writable (D.Sf 0) x := by
    intro k
    induction k with
    | zero => intro _ x _ hw; exact hw
    | succ k ih =>
      intro hk x hx hw
      have hxk : x < (D.Sf k).length := Nat.lt_of_lt_of_le hx (D.sf_mono k (Nat.zero_le _) (by omega))
      refine ih (by omega) x hx ?_
      by_cases hck : clsD P ops qf k = .lo
      · have hord := hd.near (by omega) hlt (by omega) hck hc hnf
        have hord' : ordered (befs ops []) i k = true := by unfold ordered at hord ⊢; rw [Bool.or_comm]; exact hord
        exact h.wr k (by omega) ((hr.ord k (by omega) hord').2 (by omega)) x hxk hw
      · rwa [writable_prefix (D.quiet (by omega) hck) hxk] at hw
  have hnew : ∀ x k, (D.Sf 0).length ≤ x → x < (D.Sf ops.length).length → μ' x = some k → w0.heap.size ≤ k.b ∨ ∃ h0 k0, h0 < (D.Sf 0).length ∧ μ0 h0 = some k0 ∧ k0.b = k.b ∧ writable (D.Sf 0) h0 := by
    intro x k hx1 hx2 hk
    by_cases hxi : x < (D.Sf i).length ∨ (D.Sf (i + 1)).length ≤ x
    · rw [hS.mu x hxi] at hk
      exact h.new x k hx1 hx2 hk
    · rcases hS.new x k (by omega) (by omega) hk with hb | ⟨h0, k0, g1, g2, g3, g4⟩
      · exact .inl (Nat.le_trans h.size hb)
      · by_cases h00 : h0 < (D.Sf 0).length
        · rw [h.mu h0 (.inl h00)] at g2
          exact .inr ⟨h0, k0, h00, g2, g3, hw0 i (Nat.le_refl _) h0 h00 g4⟩
        · rcases h.new h0 k0 (by omega) (by omega) g2 with hb | ⟨h1, k1, q1, q2, q3, q4⟩
          · exact .inl (by omega)
          · exact .inr ⟨h1, k1, q1, q2, q3.trans g3, q4⟩
  refine ⟨?_, ?_, ?_, hnew, ?_, Nat.le_trans h.size hS.size, hS.tape.trans h.tape, hS.os.trans h.os, hS.output.trans h.output, ?_⟩
  · -- mem
    by_cases hci : clsD P ops qf i = .lo
    · have := hmi hci
      subst this
      obtain ⟨m', h1, h2, h3, h4⟩ := next_lo P qf ops (ops.length - (m + 1)) (m + 1) (by omega)
      refine ⟨m', h2, ?_, h4, ?_⟩
      · intro j hj hcj
        rw [hset]
        by_cases hjm : j = m
        · subst hjm; simp; omega
        · have := hlo j hj hcj
          constructor
          · rintro (h | h)
            · exact absurd h hjm
            · have := this.1 h; omega
          · intro hlt'
            right
            apply this.2
            apply Classical.byContradiction
            intro hge
            exact h3 j (by omega) hlt' hcj
      · have hp := D.chain (i := m + 1) m' h1 h2 h3
        refine hR'.extend hp (fresh_chain D m' h1 h2 fun k hk1 hk2 => ?_)
        by_cases hkp : clsD P ops qf k = .pure
        · have hcl := clsD_pure (P := P) (qf := qf) (List.getElem?_eq_getElem (show k < ops.length by omega)) hkp
          rcases (D.step k _ (List.getElem?_eq_getElem (show k < ops.length by omega))).2 with ⟨_, _, _, hf⟩ | ⟨_, _, hsk⟩
          · rw [(hf.pure hcl).1]; intro x a b; omega
          · rw [hsk]; intro x a b; omega
        · rcases hd.mem m k hlt (by omega) (by omega) hci hkp with hord | hfar
          · have hun : ¬ L listed k := fun hl => by
              have := (hr.ord k (by omega) hord).1 hl
              omega
            intro x a b
            have hge : (D.Sf (m + 1)).length ≤ (D.Sf k).length := D.sf_mono k hk1 (by omega)
            rw [hS.mu x (.inr (by omega))]
            exact h.fresh k (by omega) hun x a b
          · obtain ⟨_, o, T, a, ho, hop, _⟩ := far_ld hfar
            rw [D.load_same ho hop]; intro x a b; omega
    · have hne : i ≠ m := by
        rintro rfl
        rcases hml with h | h
        · omega
        · exact hci h
      have hp1 : D.Sf (i + 1) <+: D.Sf m := D.chain m (by omega) hm fun k h1 h2 => hbt k (by omega) h2
      refine ⟨m, hm, ?_, hml, hR.merge (D.quiet hlt hci) hp1 hS hR' hfi⟩
      intro j hj hcj
      rw [hset]
      have hji : j ≠ i := by rintro rfl; exact hci hcj
      simp only [hji, false_or]
      exact hlo j hj hcj
  · intro j hj hl x a b
    have hji : j ≠ i := fun e => hl ((hset j).2 (.inl e))
    have hfj := h.fresh j hj (fun hl' => hl ((hset j).2 (.inr hl'))) x a b
    rcases Nat.lt_or_ge j i with hlt' | hge
    · have : (D.Sf (j + 1)).length ≤ (D.Sf i).length := D.sf_mono i hlt' (by omega)
      rw [hS.mu x (.inl (by omega))]; exact hfj
    · have : (D.Sf (i + 1)).length ≤ (D.Sf j).length := D.sf_mono j (by omega) (by omega)
      rw [hS.mu x (.inr (by omega))]; exact hfj
  · intro x hx
    rw [hS.mu x (by omega)]
    exact h.mu x hx
  · intro j hj hl x hx hw
    by_cases hji : j = i
    · subst hji; exact hS.wr x hx hw
    · exact h.wr j hj (((hset j).1 hl).resolve_left hji) x hx hw
  · intro b hb hn
    rw [hS.frame b (Nat.lt_of_lt_of_le hb h.size) ?_, h.frame b hb hn]
    intro x k hx hk hkb hw
    by_cases hx0 : x < (D.Sf 0).length
    · rw [h.mu x (.inl hx0)] at hk
      exact hn x k hx0 hk hkb (hw0 i (Nat.le_refl _) x hx0 hw)
    · rcases h.new x k (by omega) (by omega) hk with hb' | ⟨h1, k1, q1, q2, q3, q4⟩
      · omega
      · exact hn h1 k1 q1 q2 (q3.trans hkb) q4

/-- Where the pointer comes from, in the registers. -/
theorem root_spec (D : Data P qf ops E0 σ0 E' σ') : ∀ (n a j : Nat) {t : Nat} {ad : Addr}, j ≤ ops.length → rootN ops n a j = some t → (D.Ef j).getD a none = some (.pointer (some ad)) →
    ∃ b, E0.getD t none = some (.pointer (some b)) ∧ b.block = ad.block ∧ ∀ k, k ≤ ops.length → (D.Ef k).getD t none = E0.getD t none
  | 0, a, j, t, ad, hj, h, hv => by cases h
  | n + 1, a, j, t, ad, hj, h, hv => by
    simp only [rootN] at h
    split at h
    · rename_i hnil
      cases h
      have hno : ∀ (k : Nat) (o : Oper), ops[k]? = some o → o.dst ≠ some a := by
        intro k o hk hd
        have : (o, k) ∈ ops.zipIdx.filter fun p => p.1.dst == some a := List.mem_filter.2 ⟨mem_zipIdx hk, by simp [hd]⟩
        rw [hnil] at this; cases this
      have hsame : ∀ k, k ≤ ops.length → (D.Ef k).getD a none = E0.getD a none := fun k hk => by
        rw [D.ef_same (i := 0) k (Nat.zero_le _) hk fun x o _ _ hx => hno x o hx, D.e0]
      exact ⟨ad, by rw [← hsame j hj]; exact hv, rfl, hsame⟩
    · rename_i p hp
      cases hlt : Nat.blt p.2 j with
      | false => rw [hlt] at h; cases h
      | true =>
        rw [hlt, cond_true] at h
        have hlt : p.2 < j := by simpa [Nat.blt_eq] using hlt
        split at h
        rotate_left
        · cases h
        rename_i T b f hop
        have hmem : p ∈ ops.zipIdx.filter fun p => p.1.dst == some a := by rw [hp]; simp
        obtain ⟨hm1, hm2⟩ := List.mem_filter.1 hmem
        have hpo : ops[p.2]? = some p.1 := List.mem_zipIdx_iff_getElem?.1 hm1
        have hpd : p.1.dst = some a := by simpa using hm2
        have hone : ∀ (k : Nat) (o : Oper), p.2 + 1 ≤ k → k < j → ops[k]? = some o → o.dst ≠ some a := by
          intro k o h1 h2 hk hd
          have : (o, k) ∈ ops.zipIdx.filter fun p => p.1.dst == some a := List.mem_filter.2 ⟨mem_zipIdx hk, by simp [hd]⟩
          rw [hp] at this
          have := List.mem_singleton.1 this
          rw [← this] at h1
          simp only at h1
          omega
        obtain ⟨hE, hst⟩ := D.step p.2 p.1 hpo
        rw [D.ef_same (i := p.2 + 1) j (by omega) hj hone, hE, hpd] at hv
        simp only [putr, getD_set] at hv
        have hV : D.V p.2 = .pointer (some ad) := by
          split at hv
          · exact Option.some.inj hv
          · rename_i hc
            have : a < (D.Ef p.2).length := by
              rcases Nat.lt_or_ge a (D.Ef p.2).length with h | h
              · exact h
              · rw [List.getD_eq_getElem?_getD, List.getElem?_eq_none h] at hv; cases hv
            exact absurd (by simp [this]) hc
        rcases hst with ⟨regs, hw, _, hf⟩ | ⟨_, hu, _⟩
        · obtain ⟨a0, a', h1, h2, h3⟩ := hf.more.fa T (.tmp b) f hop
          rw [hV] at h2
          cases h2
          obtain ⟨b', g1, g2, g3⟩ := root_spec D n b p.2 (by omega) h (hw b _ (restr_some h1).2)
          exact ⟨b', g1, g2.trans h3.symm, g3⟩
        · rw [hV] at hu; cases hu
    · cases h

/-- A memory with one object alone. -/
def only (h : Nat) (σ : AMem) : AMem := σ.mapIdx fun x o => if x = h then o else .dead

theorem R.only {μ : Mu} {σ : AMem} {w : World} (hR : R P μ σ w) (h : Nat) : R P μ (only h σ) w := by
  have get : ∀ x o, (AX.only h σ)[x]? = some o → (x = h ∧ σ[x]? = some o) ∨ o = .dead := by
    intro x o ho
    unfold AX.only at ho
    rw [List.getElem?_mapIdx] at ho
    cases hq : σ[x]? with
    | none => rw [hq] at ho; cases ho
    | some y =>
      rw [hq] at ho
      simp only [Option.map_some, Option.some.injEq] at ho
      by_cases hx : x = h
      · rw [if_pos hx] at ho; exact .inl ⟨hx, by rw [ho]⟩
      · rw [if_neg hx] at ho; exact .inr ho.symm
  refine ⟨?_, hR.lt, ?_⟩
  · intro x o k ho hk
    rcases get x o ho with ⟨_, h2⟩ | rfl
    · exact hR.obj x o k h2 hk
    · trivial
  · intro a b ka kb h1 h2 h3 h4 h6 h5
    obtain ⟨o, ho, hd⟩ := h3
    obtain ⟨o2, ho2, hd2⟩ := h4
    rcases get a o ho with ⟨e1, _⟩ | e
    · rcases get b o2 ho2 with ⟨e2, _⟩ | e
      · rw [e1, e2]
      · exact absurd e hd2
    · exact absurd e hd

/-- A load in no order with calls reads what it reads in the order of the text. -/
theorem MemInv.far {D : Data P qf ops E0 σ0 E' σ'} (hd : DrawOk P ops qf) (h : MemInv D hi μ0 w0 listed μ w) (hr : Ready P qf ops listed i) {t : Nat} (hfb : farBase ops i = some t) {o : Oper} (ho : ops[i]? = some o) {regs : Regs} (hw : Weak (D.Ef i) regs)
    (hf : OpFacts P o (qf i).1 (restr o (evr regs)) (D.Sf i) (D.V i) (D.Sf (i + 1))) (hlive : ∀ t b, E0.getD t none = some (.pointer (some b)) → b.block < σ0.length ∨ (D.Sf ops.length).length ≤ b.block) :
    ∃ σ2, R P μ σ2 w ∧ LdOk P o (restr o (evr regs)) σ2 (D.V i) := by
  obtain ⟨o', T, a, ho', hop, hroot⟩ := far_base hfb
  rw [ho] at ho'
  cases ho'
  obtain ⟨ad, hx, hat⟩ := hf.more.load T (.tmp a) hop
  obtain ⟨b, hb1, hb2, hb3⟩ := root_spec D 8 a i (by have := hr.lt; omega) hroot (hw a _ (restr_some hx).2)
  have hlt := hr.lt
  obtain ⟨m, hm, hlo, hml, hR⟩ := h.mem
  cases hq : (D.Sf i)[ad.block]? with
  | none => exact ⟨[], hR.pre List.nil_prefix, hat [] (by rw [hq]; simp)⟩
  | some x =>
    have hlti : ad.block < (D.Sf i).length := (List.getElem?_eq_some_iff.1 hq).1
    have hlt0 : ad.block < (D.Sf 0).length := by
      rw [D.s0]
      rcases hlive t b hb1 with hh | hh
      · rw [← hb2]; exact hh
      · have := D.sf_mono (i := i) ops.length (by omega) (Nat.le_refl _)
        omega
    have stepk : ∀ k, k < ops.length → (clsD P ops qf k ≠ .lo ∨ farOk ops qf k i = true) → (D.Sf (k + 1))[ad.block]? = (D.Sf k)[ad.block]? := by
      intro k hk hh
      have hlk : ad.block < (D.Sf k).length := Nat.lt_of_lt_of_le hlt0 (D.sf_mono k (Nat.zero_le _) (by omega))
      rcases hh with hh | hh
      · obtain ⟨τ, hτ⟩ := D.quiet hk hh
        rw [← hτ, List.getElem?_append_left hlk]
      · have htk : t ∈ (qf k).2 := by
          obtain ⟨t', _, _, _, _, _, hb', _, hc⟩ := far_ld hh
          rw [hfb] at hb'; cases hb'; exact hc
        rcases D.keep k _ (List.getElem?_eq_getElem hk) with hkp | hkp
        · obtain ⟨p, h1, h2⟩ := hkp t htk
          rw [hb3 k (by omega), hb1] at h1
          cases h1
          rw [← hb2]; exact h2 b rfl
        · rw [hkp]
    -- what may lie between
    have loose_ : ∀ k, k < ops.length → k ≠ i → clsD P ops qf k = .lo → (L listed k ↔ ¬ k < i) → farOk ops qf k i = true := by
      intro k hk hki hck hl
      rcases hd.mem k i hk hlt hki hck (by rw [(load_cls (P := P) (qf := qf) ho hop).1]; simp) with hord | hfar
      · have hord' : ordered (befs ops []) i k = true := by unfold ordered at hord ⊢; rw [Bool.or_comm]; exact hord
        have := hr.ord k hki hord'
        have h2 := this.symm.trans hl
        by_cases hc : k < i
        · exact absurd hc (h2.1 hc)
        · exact absurd (h2.2 hc) hc
      · exact hfar
    have ici : clsD P ops qf i ≠ .lo := by rw [(load_cls (P := P) (qf := qf) ho hop).1]; simp
    have same : (D.Sf m)[ad.block]? = (D.Sf i)[ad.block]? := by
      rcases Nat.le_total i m with him | hmi
      · have : ∀ m', i ≤ m' → m' ≤ m → (D.Sf m')[ad.block]? = (D.Sf i)[ad.block]? := by
          intro m' h1
          induction h1 with
          | refl => intro _; rfl
          | @step k hk ih =>
            intro h2
            rw [stepk k (by omega) ?_, ih (by omega)]
            by_cases hck : clsD P ops qf k = .lo
            · have hki : k ≠ i := by rintro rfl; exact ici hck
              have hkm := hlo k (by omega) hck
              have hk' : i ≤ k := hk
              exact .inr (loose_ k (by omega) hki hck ⟨fun _ => by omega, fun _ => hkm.2 (by omega)⟩)
            · exact .inl hck
        exact this m him (Nat.le_refl _)
      · have : ∀ m', m ≤ m' → m' ≤ i → (D.Sf m')[ad.block]? = (D.Sf m)[ad.block]? := by
          intro m' h1
          induction h1 with
          | refl => intro _; rfl
          | @step k hk ih =>
            intro h2
            rw [stepk k (by omega) ?_, ih (by omega)]
            by_cases hck : clsD P ops qf k = .lo
            · have hki : k ≠ i := by omega
              have hkm := hlo k (by omega) hck
              have hk' : m ≤ k := hk
              exact .inr (loose_ k (by omega) hki hck ⟨fun hl => by have := hkm.1 hl; omega, fun hn => by omega⟩)
            · exact .inl hck
        exact (this i hmi (Nat.le_refl _)).symm
    refine ⟨AX.only ad.block (D.Sf m), hR.only _, hat _ ?_⟩
    unfold AX.only
    rw [List.getElem?_mapIdx, same, hq]
    simp

/-- What is known of the registers when some operations are listed. -/
def RegInv (D : Data P qf ops E0 σ0 E' σ') (listed : Array Bool) (μ : Mu) (tmps : Array Value) : Prop :=
  ∀ t, ∃ m, m ≤ ops.length ∧ (∀ j o, ops[j]? = some o → o.dst = some t → (L listed j ↔ j < m)) ∧ ∀ v, (D.Ef m).getD t none = some v → ∃ v', tmps[t]? = some v' ∧ RV μ v v'

/-- A register that an operation looks at, or writes, holds what it holds in the order of the text. -/
theorem RegInv.at {D : Data P qf ops E0 σ0 E' σ'} (hd : DrawOk P ops qf) {tmps : Array Value} (h : RegInv D listed μ tmps) (hr : Ready P qf ops listed i) {o : Oper} (ho : ops[i]? = some o) {t : Nat} (ht : t ∈ looksL ops o ∨ o.dst = some t) :
    ∀ v, (D.Ef i).getD t none = some v → ∃ v', tmps[t]? = some v' ∧ RV μ v v' := by
  obtain ⟨m, hm, hw, hv⟩ := h t
  have hlt := hr.lt
  have key : ∀ j oj, ops[j]? = some oj → oj.dst = some t → (L listed j ↔ j < i) := by
    intro j oj hj hdj
    by_cases hji : j = i
    · subst hji
      constructor
      · intro hl; exact absurd hl hr.un
      · intro hl; omega
    · have hord := hd.reg j i oj o t hj ho hji hdj ht
      have hord' : ordered (befs ops []) i j = true := by unfold ordered at hord ⊢; rw [Bool.or_comm]; exact hord
      exact hr.ord j hji hord'
  have same : (D.Ef m).getD t none = (D.Ef i).getD t none := by
    rcases Nat.le_total i m with him | hmi
    · refine D.ef_same m him hm fun k ok h1 h2 hk hdk => ?_
      have a := (hw k ok hk hdk).2 h2
      have := (key k ok hk hdk).1 a
      omega
    · refine (D.ef_same i hmi (by omega) fun k ok h1 h2 hk hdk => ?_).symm
      have a := (key k ok hk hdk).2 h2
      have := (hw k ok hk hdk).1 a
      omega
  rw [← same]; exact hv

theorem RegInv.put {D : Data P qf ops E0 σ0 E' σ'} (hd : DrawOk P ops qf) {a : Act} (h : RegInv D listed μ a.tmps) (hr : Ready P qf ops listed i) {o : Oper} (ho : ops[i]? = some o) (hsz : E0.length ≤ a.tmps.size) {μ' : Mu} (hle : μ.le μ') {v' : Value} (hv : RV μ' (D.V i) v') :
    RegInv D (listed.setIfInBounds i true) μ' (a.put o.dst v').tmps := by
  have hset : ∀ j, L (listed.setIfInBounds i true) j ↔ j = i ∨ L listed j := fun j => L_set (by rw [hr.size]; exact hr.lt)
  have hlt := hr.lt
  intro t
  by_cases hdt : o.dst = some t
  · refine ⟨i + 1, by omega, ?_, ?_⟩
    · intro j oj hj hdj
      rw [hset]
      by_cases hji : j = i
      · subst hji; simp
      · have hord := hd.reg j i oj o t hj ho hji hdj (.inr hdt)
        have hord' : ordered (befs ops []) i j = true := by unfold ordered at hord ⊢; rw [Bool.or_comm]; exact hord
        have := hr.ord j hji hord'
        simp only [hji, false_or]
        rw [this]; omega
    · intro v hvv
      rw [(D.step i o ho).1, hdt] at hvv
      simp only [putr, getD_set] at hvv
      simp only [hdt, Act.put, Array.getElem?_setIfInBounds, if_true]
      split at hvv
      · rename_i hc
        cases hvv
        have : t < a.tmps.size := by
          have := D.ef_len i (by omega)
          omega
        rw [if_pos this]
        exact ⟨v', rfl, hv⟩
      · rename_i hc
        have : t < (D.Ef i).length := by
          rcases Nat.lt_or_ge t (D.Ef i).length with h | h
          · exact h
          · rw [List.getD_eq_getElem?_getD, List.getElem?_eq_none h] at hvv; cases hvv
        exact absurd ⟨trivial, this⟩ hc
  · obtain ⟨m, hm, hw, hvm⟩ := h t
    refine ⟨m, hm, ?_, ?_⟩
    · intro j oj hj hdj
      rw [hset]
      have hji : j ≠ i := by
        rintro rfl
        rw [ho] at hj; cases hj; exact hdt hdj
      simp only [hji, false_or]
      exact hw j oj hj hdj
    · intro v hvv
      obtain ⟨u, hu1, hu2⟩ := hvm v hvv
      exact ⟨u, by rw [put_get_other hdt]; exact hu1, hu2.mono hle⟩
end

end Go.AX
