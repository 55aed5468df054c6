/-
  Regions whose order is drawn: what is needed of the order of the text.
-/
import Derived.Test.YtilefhlamdiomaaGreatAX14
import Derived.Orders
set_option linter.unusedSimpArgs false
set_option linter.unusedVariables false
set_option linter.unusedSectionVars false
namespace Go.AX
open Go
variable {ρ : Type} {P : Program} [Quiet]

theorem testBit_fold {f : Edge → Nat} {j : Nat} : ∀ {l : List Edge} {s : Nat}, (l.foldl (fun s e => s ||| 2 ^ e.on ||| f e) s).testBit j = true → s.testBit j = true ∨ ∃ e ∈ l, j = e.on ∨ (f e).testBit j = true
  | [], s, h => .inl h
  | e :: l, s, h => by
    simp only [List.foldl_cons] at h
    rcases testBit_fold h with h | ⟨e', he', h⟩
    · rw [Nat.testBit_or, Nat.testBit_or, Bool.or_eq_true, Bool.or_eq_true, Nat.testBit_two_pow] at h
      rcases h with (h | h) | h
      · exact .inl h
      · exact .inr ⟨e, by simp, .inl (by simpa [eq_comm] using h)⟩
      · exact .inr ⟨e, by simp, .inr h⟩
    · exact .inr ⟨e', by simp [he'], h⟩

theorem maskOf_bit {acc : List Nat} {o : Oper} {j : Nat} (h : (maskOf acc o).testBit j = true) : ∃ e ∈ o.after.toList, Region.binds .any e = true ∧ (j = e.on ∨ (acc.getD e.on 0).testBit j = true) := by
  rcases testBit_fold (f := fun e => acc.getD e.on 0) h with h | ⟨e, he, h⟩
  · simp at h
  · rw [List.mem_filter] at he
    exact ⟨e, he.1, he.2, h⟩

theorem befs_spec : ∀ (os : List Oper) (acc : List Nat), (befs os acc).take acc.length = acc ∧ (befs os acc).length = acc.length + os.length ∧
    ∀ i o, os[i]? = some o → (befs os acc)[acc.length + i]? = some (maskOf ((befs os acc).take (acc.length + i)) o)
  | [], acc => ⟨by simp [befs], by simp [befs], by simp⟩
  | o :: os, acc => by
    simp only [befs]
    obtain ⟨h1, h2, h3⟩ := befs_spec os (acc ++ [maskOf acc o])
    simp only [List.length_append, List.length_singleton] at h1 h2 h3
    have hpre : (befs os (acc ++ [maskOf acc o])).take acc.length = acc := by
      have := congrArg (List.take acc.length) h1
      rw [List.take_take] at this
      simpa [Nat.min_eq_left (Nat.le_succ _)] using this
    refine ⟨hpre, by rw [h2]; simp; omega, ?_⟩
    intro i o' hi
    cases i with
    | zero =>
      simp at hi; subst hi
      rw [Nat.add_zero, hpre]
      have := congrArg (fun l => l[acc.length]?) h1
      simp only [List.getElem?_take] at this
      rw [if_pos (by omega)] at this
      rw [this]; simp
    | succ i =>
      simp at hi
      have := h3 i o' hi
      rwa [show acc.length + 1 + i = acc.length + (i + 1) by omega] at this

section
variable {ops : List Oper}

theorem bef_bit {i j : Nat} {o : Oper} (ho : ops[i]? = some o) (h : ((befs ops []).getD i 0).testBit j = true) :
    ∃ e ∈ o.after.toList, Region.binds .any e = true ∧ (j = e.on ∨ (e.on < i ∧ ((befs ops []).getD e.on 0).testBit j = true)) := by
  obtain ⟨_, h2, h3⟩ := befs_spec ops []
  have := h3 i o ho
  simp only [List.length_nil, Nat.zero_add] at this
  rw [List.getD_eq_getElem?_getD, this, Option.getD_some] at h
  obtain ⟨e, he, hb, hj⟩ := maskOf_bit h
  refine ⟨e, he, hb, ?_⟩
  rcases hj with hj | hj
  · exact .inl hj
  · right
    rw [List.getD_eq_getElem?_getD, List.getElem?_take] at hj
    by_cases hlt : e.on < i
    · rw [if_pos hlt] at hj
      exact ⟨hlt, by rw [List.getD_eq_getElem?_getD]; exact hj⟩
    · rw [if_neg hlt] at hj; simp at hj

theorem bef_some {i j : Nat} (h : ((befs ops []).getD i 0).testBit j = true) : ∃ o, ops[i]? = some o := by
  obtain ⟨_, h2, _⟩ := befs_spec ops []
  rcases Nat.lt_or_ge i ops.length with hi | hi
  · exact ⟨_, List.getElem?_eq_getElem hi⟩
  · rw [List.getD_eq_getElem?_getD, List.getElem?_eq_none (by rw [h2]; simpa using hi)] at h
    simp at h

/-- What comes before an operation whose edges are listed is listed. -/
theorem bef_listed {S : Nat → Prop} (hdown : ∀ i o, ops[i]? = some o → S i → ∀ e ∈ o.after.toList, Region.binds .any e = true → S e.on) :
    ∀ (i : Nat) {o : Oper} {j : Nat}, ops[i]? = some o → (∀ e ∈ o.after.toList, Region.binds .any e = true → S e.on) → ((befs ops []).getD i 0).testBit j = true → S j := by
  intro i
  induction i using Nat.strongRecOn with
  | _ i ih =>
    intro o j ho hedges h
    obtain ⟨e, he, hb, hj⟩ := bef_bit ho h
    rcases hj with rfl | ⟨hlt, hj⟩
    · exact hedges e he hb
    · obtain ⟨o', ho'⟩ := bef_some hj
      exact ih e.on hlt ho' (hdown _ _ ho' (hedges e he hb)) hj

theorem bef_lt (h0 : ∀ i o, ops[i]? = some o → ∀ e ∈ o.after.toList, Region.binds .any e = true → e.on < i) : ∀ (i : Nat) {j : Nat}, ((befs ops []).getD i 0).testBit j = true → j < i := by
  intro i
  induction i using Nat.strongRecOn with
  | _ i ih =>
    intro j h
    obtain ⟨o, ho⟩ := bef_some h
    obtain ⟨e, he, hb, hj⟩ := bef_bit ho h
    have hlt := h0 i o ho e he hb
    rcases hj with rfl | ⟨_, hj⟩
    · exact hlt
    · exact Nat.lt_trans (ih e.on hlt hj) hlt

/-- What drawOk says. -/
structure DrawOk (P : Program) (ops : List Oper) (qf : Nat → QF) : Prop where
  down : ∀ i o, ops[i]? = some o → ∀ e ∈ o.after.toList, Region.binds .any e = true → e.on < i
  reg : ∀ i j oi oj t, ops[i]? = some oi → ops[j]? = some oj → i ≠ j → oi.dst = some t → (t ∈ looksL ops oj ∨ oj.dst = some t) → ordered (befs ops []) i j = true
  mem : ∀ i j, i < ops.length → j < ops.length → i ≠ j → clsD P ops qf i = .lo → clsD P ops qf j ≠ .pure → ordered (befs ops []) i j = true ∨ farOk ops qf i j = true

theorem mem_zipIdx {l : List Oper} {i : Nat} {o : Oper} (h : l[i]? = some o) : (o, i) ∈ l.zipIdx := by
  rw [List.mem_zipIdx_iff_getElem?]; exact h

theorem drawOk_spec {qf : Nat → QF} (h : drawOk P ops qf = true) : DrawOk P ops qf := by
  unfold drawOk at h
  simp only [List.all_eq_true, Bool.and_eq_true, Bool.or_eq_true, Bool.not_eq_true', beq_iff_eq, bne_iff_ne, ne_eq] at h
  refine ⟨?_, ?_, ?_⟩
  · intro i o ho e he hb
    have := (h (o, i) (mem_zipIdx ho)).1 e he
    rcases this with h | h
    · rw [hb] at h; cases h
    · simpa [Nat.blt_eq] using h
  · intro i j oi oj t hi hj hij hdst hl
    have := (h (oi, i) (mem_zipIdx hi)).2 (oj, j) (mem_zipIdx hj)
    rcases this with h | h
    · exact absurd h hij
    · have h := h.1
      simp only [hdst] at h
      simp only [Bool.or_eq_true, Bool.and_eq_true, Bool.not_eq_true', bne_iff_ne, ne_eq] at h
      rcases h with h | h
      · rcases hl with hl | hl
        · have := h.1; simp [hl] at this
        · exact absurd hl h.2
      · exact h
  · intro i j hi hj hij hc hcj
    have := (h (ops[i], i) (mem_zipIdx (List.getElem?_eq_getElem hi))).2 (ops[j], j) (mem_zipIdx (List.getElem?_eq_getElem hj))
    rcases this with h | h
    · exact absurd h hij
    · have h := h.2
      rcases h with (h | h) | h
      · rcases h with h | h
        · exact absurd hc h
        · exact absurd h hcj
      · exact .inl h
      · exact .inr h
end

/-- The states of a trace. -/
structure Data (P : Program) (qf : Nat → QF) (ops : List Oper) (E0 : Regs) (σ0 : AMem) (E' : Regs) (σ' : AMem) where
  Ef : Nat → Regs
  Sf : Nat → AMem
  V : Nat → Value
  e0 : Ef 0 = E0
  s0 : Sf 0 = σ0
  en : Ef ops.length = E'
  sn : Sf ops.length = σ'
  step : ∀ k o, ops[k]? = some o → Ef (k + 1) = putr (Ef k) o.dst (some (V k)) ∧
    ((∃ regs, Weak (Ef k) regs ∧ yes ops o regs ∧ OpFacts P o (qf k).1 (restr o (evr regs)) (Sf k) (V k) (Sf (k + 1))) ∨ ((∃ regs, Weak (Ef k) regs ∧ no ops o regs) ∧ V k = undef ∧ Sf (k + 1) = Sf k))
  keep : ∀ k o, ops[k]? = some o → Kept (qf k).2 (Ef k) (Sf k) (Sf (k + 1)) ∨ Sf (k + 1) = Sf k

theorem tr_data {qf : Nat → QF} {all : List Oper} {L : List (Nat × Oper)} {E E' : Regs} {σ σ' : AMem} (h : Tr P qf all L E σ E' σ') :
    ∃ (Ef : Nat → Regs) (Sf : Nat → AMem) (V : Nat → Value), Ef 0 = E ∧ Sf 0 = σ ∧ Ef L.length = E' ∧ Sf L.length = σ' ∧ ∀ k i o, L[k]? = some (i, o) → Ef (k + 1) = putr (Ef k) o.dst (some (V k)) ∧
      ((∃ regs, Weak (Ef k) regs ∧ yes all o regs ∧ OpFacts P o (qf i).1 (restr o (evr regs)) (Sf k) (V k) (Sf (k + 1))) ∨ ((∃ regs, Weak (Ef k) regs ∧ no all o regs) ∧ V k = undef ∧ Sf (k + 1) = Sf k)) ∧ (Kept (qf i).2 (Ef k) (Sf k) (Sf (k + 1)) ∨ Sf (k + 1) = Sf k) := by
  induction h with
  | @nil E σ => exact ⟨fun _ => E, fun _ => σ, fun _ => undef, rfl, rfl, rfl, rfl, by simp⟩
  | @step i o rest E regs E' σ σ1 σ' v hw hy hf hkp ht ih =>
    obtain ⟨Ef, Sf, V, h1, h2, h3, h4, h5⟩ := ih
    refine ⟨fun k => match k with | 0 => E | k + 1 => Ef k, fun k => match k with | 0 => σ | k + 1 => Sf k, fun k => match k with | 0 => v | k + 1 => V k, rfl, rfl, h3, h4, ?_⟩
    intro k i' o' hk
    cases k with
    | zero =>
      simp at hk; obtain ⟨rfl, rfl⟩ := hk
      refine ⟨h1, .inl ⟨regs, hw, hy, ?_⟩, .inl ?_⟩
      · simp only [h2]; exact hf
      · simp only [h2]; exact hkp
    | succ k => exact h5 k i' o' (by simpa using hk)
  | @skip i o rest E regs E' σ σ' hw hn ht ih =>
    obtain ⟨Ef, Sf, V, h1, h2, h3, h4, h5⟩ := ih
    refine ⟨fun k => match k with | 0 => E | k + 1 => Ef k, fun k => match k with | 0 => σ | k + 1 => Sf k, fun k => match k with | 0 => undef | k + 1 => V k, rfl, rfl, h3, h4, ?_⟩
    intro k i' o' hk
    cases k with
    | zero =>
      simp at hk; obtain ⟨rfl, rfl⟩ := hk
      exact ⟨h1, .inr ⟨⟨regs, hw, hn⟩, rfl, h2⟩, .inr h2⟩
    | succ k => exact h5 k i' o' (by simpa using hk)

theorem tr_Data {qf : Nat → QF} {ops : List Oper} {E E' : Regs} {σ σ' : AMem} (h : Tr P qf ops (ops.zipIdx.map fun x => (x.2, x.1)) E σ E' σ') : Nonempty (Data P qf ops E σ E' σ') := by
  obtain ⟨Ef, Sf, V, h1, h2, h3, h4, h5⟩ := tr_data h
  refine ⟨⟨Ef, Sf, V, h1, h2, by simpa using h3, by simpa using h4, fun k o hk => ?_, fun k o hk => ?_⟩⟩
  · have := h5 k k o (by simp [List.getElem?_zipIdx, hk])
    exact ⟨this.1, this.2.1⟩
  · exact (h5 k k o (by simp [List.getElem?_zipIdx, hk])).2.2

/-- The relation speaks of a longer memory, whose further objects are not there yet. -/
theorem R.pre {μ : Mu} {σ σ2 : AMem} {w : World} (h : R P μ σ2 w) (hp : σ <+: σ2) : R P μ σ w := by
  obtain ⟨t, rfl⟩ := hp
  refine ⟨?_, h.lt, ?_⟩
  · intro x o k ho hk
    have hlt : x < σ.length := (List.getElem?_eq_some_iff.1 ho).1
    exact h.obj x o k (by rw [List.getElem?_append_left hlt]; exact ho) hk
  · intro a b ka kb h1 h2 h3 h4 h6 h5
    have hal : ∀ x, alive σ x → alive (σ ++ t) x := by
      intro x ⟨o, ho, hd⟩
      have hlt : x < σ.length := (List.getElem?_eq_some_iff.1 ho).1
      exact ⟨o, by rw [List.getElem?_append_left hlt]; exact ho, hd⟩
    have hwal : ∀ x, alive σ x → writable σ x → writable (σ ++ t) x := by
      intro x ⟨o, ho, hd⟩ hw
      have hlt : x < σ.length := (List.getElem?_eq_some_iff.1 ho).1
      unfold writable at hw ⊢
      rwa [List.getElem?_append_left hlt]
    exact h.inj a b ka kb h1 h2 (hal a h3) (hal b h4) (h6.imp (hwal a h3) (hwal b h4)) h5

theorem R.extend {μ : Mu} {σ σ2 : AMem} {w : World} (h : R P μ σ w) (hp : σ <+: σ2) (hf : Fresh μ σ.length σ2.length) : R P μ σ2 w := by
  obtain ⟨t, rfl⟩ := hp
  have key : ∀ x k, μ x = some k → x < (σ ++ t).length → x < σ.length := by
    intro x k hk hlt
    rcases Nat.lt_or_ge x σ.length with hx | hx
    · exact hx
    · rw [hf x hx hlt] at hk; cases hk
  refine ⟨?_, h.lt, ?_⟩
  · intro x o k ho hk
    have hlt := key x k hk (List.getElem?_eq_some_iff.1 ho).1
    rw [List.getElem?_append_left hlt] at ho
    exact h.obj x o k ho hk
  · intro a b ka kb h1 h2 h3 h4 h6 h5
    have hal : ∀ x k, μ x = some k → alive (σ ++ t) x → alive σ x := by
      intro x k hk ⟨o, ho, hd⟩
      have hlt := key x k hk (List.getElem?_eq_some_iff.1 ho).1
      rw [List.getElem?_append_left hlt] at ho
      exact ⟨o, ho, hd⟩
    have hwal : ∀ x k, μ x = some k → alive (σ ++ t) x → writable (σ ++ t) x → writable σ x := by
      intro x k hk ⟨o, ho, hd⟩ hw
      have hlt := key x k hk (List.getElem?_eq_some_iff.1 ho).1
      unfold writable at hw ⊢
      rwa [List.getElem?_append_left hlt] at hw
    exact h.inj a b ka kb h1 h2 (hal a ka h1 h3) (hal b kb h2 h4) (h6.imp (hwal a ka h1 h3) (hwal b kb h2 h4)) h5

/-- A quiet operation, run before others that come ahead of it in the text, or behind. -/
theorem R.merge {μ μ' : Mu} {σ σ' σM : AMem} {w w' : World} (hM : R P μ σM w) (hp : σ <+: σ') (hp' : σ' <+: σM) (hS : Step μ σ w μ' σ' w') (hR : R P μ' σ' w') (hf : Fresh μ σ.length σ'.length) : R P μ' σM w' := by
  have hle := hS.le hf
  have hl1 : σ.length ≤ σ'.length := hS.len
  have hl2 : σ'.length ≤ σM.length := hp'.length_le
  have get' : ∀ x, x < σ'.length → σM[x]? = σ'[x]? := by
    obtain ⟨t, rfl⟩ := hp'
    intro x hx; rw [List.getElem?_append_left hx]
  have get : ∀ x, x < σ.length → σM[x]? = σ[x]? := by
    intro x hx
    rw [get' x (by omega)]
    obtain ⟨t, rfl⟩ := hp
    rw [List.getElem?_append_left hx]
  have walive : ∀ x, x < σ.length → writable σ x → alive σM x := by
    intro x hx hw
    obtain ⟨o, ho, hd⟩ := alive_writable hw
    exact ⟨o, by rw [get x hx]; exact ho, hd⟩
  have wwrit : ∀ x, x < σ.length → writable σ x → writable σM x := by
    intro x hx hw
    unfold writable at hw ⊢
    rwa [get x hx]
  -- a later object's block is not touched
  have keep : ∀ x k, σ'.length ≤ x → μ x = some k → alive σM x → w'.heap[k.b]? = w.heap[k.b]? := by
    intro x k hx hk hal
    refine hS.frame k.b (hM.lt x k hk) ?_
    intro h0 k0 hh0 hk0 hkb hw0
    have := hM.inj h0 x k0 k hk0 hk (walive h0 hh0 hw0) hal (.inl (wwrit h0 hh0 hw0)) hkb
    omega
  refine ⟨?_, hR.lt, ?_⟩
  · intro x o k ho hk
    by_cases hx : x < σ'.length
    · rw [get' x hx] at ho
      exact hR.obj x o k ho hk
    · rw [hS.mu x (.inr (by omega))] at hk
      by_cases hd : o = .dead
      · subst hd; trivial
      · rw [keep x k (by omega) hk ⟨o, ho, hd⟩]
        exact (hM.obj x o k ho hk).mono hle
  · have side : ∀ a b ka kb, μ' a = some ka → μ' b = some kb → alive σM a → alive σM b → writable σM a ∨ writable σM b → ka.b = kb.b → a < σ'.length → σ'.length ≤ b → a = b := by
      intro a b ka kb ha hb hal hbl hww hab hal' hbl'
      rw [hS.mu b (.inr hbl')] at hb
      by_cases has : a < σ.length
      · rw [hS.mu a (.inl has)] at ha
        exact hM.inj a b ka kb ha hb hal hbl hww hab
      · rcases hS.new a ka (by omega) hal' ha with h | ⟨h0, k0, hh0, hk0, hkb, hw0⟩
        · have := hM.lt b kb hb; omega
        · have := hM.inj h0 b k0 kb hk0 hb (walive h0 hh0 hw0) hbl (.inl (wwrit h0 hh0 hw0)) (hkb.trans hab)
          omega
    intro a b ka kb ha hb hal hbl hww hab
    by_cases h1 : a < σ'.length <;> by_cases h2 : b < σ'.length
    · have al : ∀ x, x < σ'.length → alive σM x → alive σ' x := by
        intro x hx ⟨o, ho, hd⟩; exact ⟨o, by rw [← get' x hx]; exact ho, hd⟩
      have wl : ∀ x, x < σ'.length → writable σM x → writable σ' x := by
        intro x hx hw
        unfold writable at hw ⊢
        rwa [get' x hx] at hw
      exact hR.inj a b ka kb ha hb (al a h1 hal) (al b h2 hbl) (hww.imp (wl a h1) (wl b h2)) hab
    · exact side a b ka kb ha hb hal hbl hww hab h1 (by omega)
    · exact (side b a kb ka hb ha hbl hal hww.symm hab.symm h2 (by omega)).symm
    · rw [hS.mu a (.inr (by omega))] at ha
      rw [hS.mu b (.inr (by omega))] at hb
      exact hM.inj a b ka kb ha hb hal hbl hww hab

end Go.AX
