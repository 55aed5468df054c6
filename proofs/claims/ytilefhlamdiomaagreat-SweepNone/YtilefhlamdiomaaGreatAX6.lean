/-
  Slicing, the length of a map; new blocks.
-/
import Derived.Test.YtilefhlamdiomaaGreatAX5
set_option linter.unusedSimpArgs false
set_option linter.unusedVariables false
set_option linter.unusedSectionVars false
namespace Go.AX
open Go
variable {ρ : Type} {P : Program} [Quiet]

theorem elemAt_blk {μ : Mu} {σ : AMem} {w : World} (hR : R P μ σ w) {b : Nat} {E : TypeId} {k : Blk} (h : elemAt σ b = some E) (hk : μ b = some k) : k.s = P.cellsOf E := by
  unfold elemAt at h
  split at h
  · rename_i vs T rw hb
    cases h
    obtain ⟨c, T', fz, hx, h1, h2, h3, h4, _⟩ := hR.obj _ _ _ hb hk
    exact h4
  · cases h

theorem cellsOf_sz {E : TypeId} {s : Nat} (h : szOf P E = some s) : P.cellsOf E = s := by
  unfold szOf at h
  unfold Program.cellsOf
  rw [h]; rfl

theorem rv_bound {μ : Mu} {e : Operand → Option Value} {f : Operand → Value} (hf : ∀ x u, e x = some u → RV μ u (f x)) {x : Option Operand} {v : Option Value} {d n top top' : Nat} (hv : (x = none ∧ v = none) ∨ ∃ y u, x = some y ∧ e y = some u ∧ v = some u)
    (hn : (v = none ∧ n = d) ∨ ∃ k i, v = some (.int k i) ∧ 0 ≤ i ∧ i ≤ (top : Int) ∧ n = i.toNat) (ht : top ≤ top') :
    (x.map f = none ∧ n = d) ∨ ∃ k i, x.map f = some (.int k i) ∧ 0 ≤ i ∧ i ≤ (top' : Int) ∧ n = i.toNat := by
  rcases hv with ⟨rfl, rfl⟩ | ⟨y, u, rfl, hy, rfl⟩
  · rcases hn with ⟨_, rfl⟩ | ⟨k, i, hh, _⟩
    · exact .inl ⟨rfl, rfl⟩
    · cases hh
  · rcases hn with ⟨hh, _⟩ | ⟨k, i, hh, h0, h1, rfl⟩
    · cases hh
    · cases hh
      have := rv_int (hf y _ hy)
      exact .inr ⟨k, i, by simp [this], h0, by omega, rfl⟩

theorem run_sliceBounds {len cap m h l : Nat} {lo hi mx : Option Value} (h1 : (mx = none ∧ m = cap) ∨ ∃ k i, mx = some (.int k i) ∧ 0 ≤ i ∧ i ≤ (cap : Int) ∧ m = i.toNat)
    (h2 : (hi = none ∧ h = len) ∨ ∃ k i, hi = some (.int k i) ∧ 0 ≤ i ∧ i ≤ (m : Int) ∧ h = i.toNat) (h3 : (lo = none ∧ l = 0) ∨ ∃ k i, lo = some (.int k i) ∧ 0 ≤ i ∧ i ≤ (h : Int) ∧ l = i.toNat)
    (hmx : mx.isSome = true → hi.isSome = true) (w : World) : (Instr.sliceBounds true len cap lo hi mx).run P w = .ok (l, h, m) w := by
  unfold Instr.sliceBounds
  rcases h1 with ⟨rfl, rfl⟩ | ⟨k1, i1, rfl, a1, b1, rfl⟩
  · rcases h2 with ⟨rfl, rfl⟩ | ⟨k2, i2, rfl, a2, b2, rfl⟩
    · rcases h3 with ⟨rfl, rfl⟩ | ⟨k3, i3, rfl, a3, b3, rfl⟩
      · simp
      · simp [run_sliceBound w k3 i3 h _ a3 b3]
    · rcases h3 with ⟨rfl, rfl⟩ | ⟨k3, i3, rfl, a3, b3, rfl⟩
      · simp [run_sliceBound w k2 i2 m _ a2 b2]
      · simp [run_sliceBound w k2 i2 m _ a2 b2, run_sliceBound w k3 i3 _ _ a3 b3]
  · rcases h2 with ⟨rfl, rfl⟩ | ⟨k2, i2, rfl, a2, b2, rfl⟩
    · simp at hmx
    · rcases h3 with ⟨rfl, rfl⟩ | ⟨k3, i3, rfl, a3, b3, rfl⟩
      · simp [run_sliceBound w k1 i1 cap _ a1 b1, run_sliceBound w k2 i2 _ _ a2 b2]
      · simp [run_sliceBound w k1 i1 cap _ a1 b1, run_sliceBound w k2 i2 _ _ a2 b2, run_sliceBound w k3 i3 _ _ a3 b3]

theorem opx_slice {T : TypeId} {x : Operand} {lo hi mx : Option Operand} {call : CallF} {q : Bool} {ty : TypeId} {e : Operand → Option Value} {σ : AMem} {K : Value → AMem → Option ρ} {r : ρ} {o : Oper} (ho : o.op = .slice T x lo hi mx)
    (h : opx P call q (.slice T x lo hi mx) ty e σ K = some r) : ∃ v, K v σ = some r ∧ LdOk P o e σ v := by
  simp only [opx, Option.bind_eq_some_iff] at h
  obtain ⟨E, hE, s, hs, v, hv, h0⟩ := h
  obtain ⟨lo', h1, hlo⟩ := evo_spec h0
  clear h0
  obtain ⟨hi', h2, hhi⟩ := evo_spec h1
  clear h1
  obtain ⟨mx', h, hmx⟩ := evo_spec h2
  clear h2
  have hT := elemOfS_spec hE
  cases v with
  | slice a len cap =>
    simp only [Option.bind_eq_some_iff] at h
    obtain ⟨r0, h, hK⟩ := h
    unfold sliceD at h
    simp only at h
    cases hms : (!mx'.isSome || hi'.isSome) with
    | false => rw [hms] at h; cases h
    | true =>
      rw [hms] at h
      simp only [cond_true] at h
      obtain ⟨m, h1, hm⟩ := bound_spec h
      clear h
      obtain ⟨hh, h2, hhb⟩ := bound_spec h1
      clear h1
      obtain ⟨l, h, hlb⟩ := bound_spec h2
      clear h2
      have hmsx : ∀ f : Operand → Value, (mx.map f).isSome = true → (hi.map f).isSome = true := by
        intro f hq
        rcases hmx with ⟨rfl, rfl⟩ | ⟨y, u, rfl, _, rfl⟩
        · simp at hq
        · rcases hhi with ⟨rfl, rfl⟩ | ⟨y', u', rfl, _, rfl⟩
          · simp at hms
          · rfl
      have hlh : l ≤ hh := by rcases hlb with ⟨_, rfl⟩ | ⟨_, _, _, _, _, rfl⟩ <;> omega
      have hmcap : m ≤ cap := by rcases hm with ⟨_, rfl⟩ | ⟨_, _, _, _, _, rfl⟩ <;> omega
      have hhm : len ≤ cap → hh ≤ m := by
        intro hlc
        rcases hhb with ⟨rfl, rfl⟩ | ⟨_, _, _, _, _, rfl⟩
        · rcases hm with ⟨_, rfl⟩ | ⟨_, _, rfl, _, _, _⟩
          · exact hlc
          · simp at hms
        · omega
      have main : ∀ (μ : Mu) (w : World) (f : Operand → Value), (∀ x u, e x = some u → RV μ u (f x)) → ∀ (a' : Option Addr) (c' m' : Nat), f x = .slice a' len c' → 
          ((mx.map f = none ∧ m' = c') ∨ ∃ k i, mx.map f = some (.int k i) ∧ 0 ≤ i ∧ i ≤ (c' : Int) ∧ m' = i.toNat) → m ≤ m' →
          (execOp f o).run P w = .ok (.value (.slice (if m' = l then a' else a'.map (·.add (l * s))) (hh - l) (m' - l))) w := by
        intro μ w f hf a' c' m' hfx hmm hmle
        refine run_execOp_value (by simp only [execOp, ho] <;> rfl) ?_
        have hb := run_sliceBounds (P := P) (len := len) hmm (rv_bound hf hhi hhb hmle) (rv_bound hf hlo hlb (Nat.le_refl _)) (hmsx f) w
        simp only [hfx, Instr.sliceAt, Instr.slice, Sem.run_bind, run_underlying hT, Result.andThen_ok, hb, run_sizeOf hs, Sem.run_pure]
      by_cases hml : m = l
      · rw [if_pos hml] at h
        cases a with
        | none =>
          simp only [Option.some.injEq] at h
          subst h
          refine ⟨_, hK, fun μ w f hR hf => ?_⟩
          have hr := hf x _ hv
          generalize hfx : f x = fx at hr
          cases hr with
          | sliceNil =>
            have h2 := hhm (Nat.le_refl _)
            have hmm : (mx.map f = none ∧ (0 : Nat) = 0) ∨ ∃ k i, mx.map f = some (.int k i) ∧ 0 ≤ i ∧ i ≤ ((0 : Nat) : Int) ∧ 0 = i.toNat := by
              refine rv_bound hf hmx ?_ (Nat.le_refl 0)
              rcases hm with ⟨g1, g2⟩ | ⟨k, i, g1, g2, g3, g4⟩
              · exact .inl ⟨g1, rfl⟩
              · exact .inr ⟨k, i, g1, g2, g3, by omega⟩
            refine ⟨_, main μ w f hf none 0 0 hfx hmm (by omega), ?_⟩
            rw [show hh - l = 0 by omega, show 0 - l = 0 by omega]
            split <;> exact .sliceNil
        | some a' =>
        simp only at h
        cases hmi : mx'.isSome with
        | true =>
          rw [hmi] at h
          simp only [cond_true, Option.some.injEq] at h
          subst h
          refine ⟨_, hK, fun μ w f hR hf => ?_⟩
          have hr := hf x _ hv
          have hex : ∃ k i, mx' = some (.int k i) ∧ 0 ≤ i ∧ i ≤ (cap : Int) ∧ m = i.toNat := by
            rcases hm with ⟨rfl, _⟩ | hm
            · simp at hmi
            · exact hm
          generalize hfx : f x = fx at hr
          have hmm : ∀ c', cap ≤ c' → (mx.map f = none ∧ m = c') ∨ ∃ k i, mx.map f = some (.int k i) ∧ 0 ≤ i ∧ i ≤ (c' : Int) ∧ m = i.toNat := by
            intro c' hc'
            exact rv_bound (d := c') hf hmx (.inr hex) hc'
          cases hr with
          | sliceZ y hz =>
            refine ⟨_, main μ w f hf _ 0 m hfx (hmm _ (Nat.le_refl _)) (Nat.le_refl _), ?_⟩
            have := hhm (Nat.le_refl _)
            rw [if_pos hml, hml, show hh - l = 0 by omega, Nat.sub_self]; exact .sliceZ _ rfl
          | slice hk hsp hl hc hm' =>
            refine ⟨_, main μ w f hf _ _ m hfx (hmm _ hc) (Nat.le_refl _), ?_⟩
            have := hhm hl
            rw [if_pos hml, hml, show hh - l = 0 by omega, Nat.sub_self]; exact .sliceZ _ rfl
          | sliceEnd hk hsp hm' =>
            refine ⟨_, main μ w f hf _ _ m hfx (hmm _ (Nat.zero_le _)) (Nat.le_refl _), ?_⟩
            have := hhm (Nat.le_refl _)
            rw [if_pos hml, hml, show hh - l = 0 by omega, Nat.sub_self]; exact .sliceZ _ rfl
        | false =>
          rw [hmi] at h
          simp only [cond_false] at h
          have hmxn : mx' = none := by simpa using hmi
          subst hmxn
          have hmc : m = cap := by
            rcases hm with ⟨_, rfl⟩ | ⟨_, _, hx, _⟩
            · rfl
            · cases hx
          have hmxf : ∀ f : Operand → Value, mx.map f = none := by
            intro f
            rcases hmx with ⟨rfl, _⟩ | ⟨_, _, _, _, hx⟩
            · rfl
            · cases hx
          split at h
          · rename_i hel
            simp only [Option.some.injEq] at h
            subst h
            refine ⟨_, hK, fun μ w f hR hf => ?_⟩
            have hr := hf x _ hv
            generalize hfx : f x = fx at hr
            cases hr with
            | @sliceZ _ z y hz =>
              refine ⟨_, main μ w f hf _ 0 0 hfx (.inl ⟨hmxf f, rfl⟩) (by omega), ?_⟩
              have := hhm (Nat.le_refl _)
              rw [show hh - l = 0 by omega, show 0 - l = 0 by omega, if_pos (by omega)]; exact .sliceZ _ hz
            | @slice _ k' _ _ c' hk hsp hl hc hm' =>
              have hsz := elemAt_blk hR hel hk
              rw [cellsOf_sz hs] at hsz
              refine ⟨_, main μ w f hf _ c' c' hfx (.inl ⟨hmxf f, rfl⟩) (by omega), ?_⟩
              have := hhm hl
              rw [show hh - l = 0 by omega]
              split
              · rename_i hcl
                rw [show c' - l = 0 by omega]
                exact .slice hk hsp (Nat.le_refl _) (Nat.le_refl _) (by have : 0 * k'.s ≤ c' * k'.s := Nat.mul_le_mul_right _ (Nat.zero_le _); omega)
              · simp only [Option.map_some, addr_add, Nat.add_assoc]
                refine .sliceEnd hk hsp ?_
                rw [hsz, Nat.sub_mul]
                rw [hsz] at hm'
                have : l * s ≤ c' * s := Nat.mul_le_mul_right _ (by omega)
                omega
            | @sliceEnd _ k' o' c' hk hsp hm' =>
              refine ⟨_, main μ w f hf _ c' c' hfx (.inl ⟨hmxf f, rfl⟩) (by omega), ?_⟩
              have := hhm (Nat.le_refl _)
              have hl0 : l = 0 := by omega
              subst hl0
              rw [show hh - 0 = 0 by omega, Nat.sub_zero]
              split
              · rename_i hcl
                exact .sliceEnd hk hsp hm'
              · simp only [Option.map_some, addr_add, Nat.zero_mul, Nat.add_zero]
                exact .sliceEnd hk hsp hm'
          · cases h
      · rw [if_neg hml] at h
        simp only [Option.bind_eq_some_iff] at h
        obtain ⟨a', ha, h⟩ := h
        subst ha
        split at h
        · rename_i hel
          simp only [Option.some.injEq] at h
          subst h
          refine ⟨_, hK, fun μ w f hR hf => ?_⟩
          have hr := hf x _ hv
          generalize hfx : f x = fx at hr
          cases hr with
          | sliceZ y hz =>
            have h1 := hhm (Nat.le_refl _)
            exact absurd (show m = l from Nat.le_antisymm (Nat.le_trans hmcap (Nat.zero_le _)) (Nat.le_trans hlh h1)) hml
          | @slice _ k' _ _ c' hk hsp hl hc hm' =>
            have hsz := elemAt_blk hR hel hk
            rw [cellsOf_sz hs] at hsz
            have hlm := hhm hl
            obtain ⟨m', hm1, hm2, hm3⟩ : ∃ m', ((mx.map f = none ∧ m' = c') ∨ ∃ k i, mx.map f = some (.int k i) ∧ 0 ≤ i ∧ i ≤ (c' : Int) ∧ m' = i.toNat) ∧ m ≤ m' ∧ m' ≤ c' := by
              rcases hm with ⟨rfl, rfl⟩ | ⟨k, i, rfl, h0, h1, rfl⟩
              · refine ⟨c', .inl ⟨?_, rfl⟩, hc, Nat.le_refl _⟩
                rcases hmx with ⟨rfl, _⟩ | ⟨_, _, _, _, hx⟩
                · rfl
                · cases hx
              · exact ⟨i.toNat, rv_bound hf hmx (.inr ⟨k, i, rfl, h0, h1, rfl⟩) hc, Nat.le_refl _, by omega⟩
            refine ⟨_, main μ w f hf _ c' m' hfx hm1 hm2, ?_⟩
            rw [if_neg (by omega)]
            simp only [Option.map_some, addr_add, Nat.add_assoc]
            refine RV.slice (a := ⟨a'.block, a'.off + l * s, none⟩) hk rfl (by omega) (by omega) ?_
            rw [hsz, Nat.sub_mul]
            rw [hsz] at hm'
            have : l * s ≤ m' * s := Nat.mul_le_mul_right _ (by omega)
            have : m' * s ≤ c' * s := Nat.mul_le_mul_right _ (by omega)
            simp only
            omega
          | @sliceEnd _ k' o' c' hk hsp hm' =>
            have h1 := hhm (Nat.le_refl _)
            exact absurd (show m = l from Nat.le_antisymm (Nat.le_trans hmcap (Nat.zero_le _)) (Nat.le_trans hlh h1)) hml
        · cases h
  | _ => cases h

end Go.AX
