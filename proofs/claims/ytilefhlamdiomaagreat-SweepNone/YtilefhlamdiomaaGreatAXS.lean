/-
  Functions without stores only add to memory.
-/
import Derived.Test.YtilefhlamdiomaaGreatAX11
set_option linter.unusedSimpArgs false
set_option linter.unusedVariables false
set_option linter.unusedSectionVars false
namespace Go.AX
open Go
variable {ρ : Type} {P : Program} [Quiet]

theorem splitPick_eq {dj : Option Nat} {known : List (Nat × Bool)} : ∀ {l : List (Nat × Oper)} {x : List (Nat × Oper) × (Nat × Oper) × List (Nat × Oper)}, splitPick dj known l = some x → l = x.1 ++ x.2.1 :: x.2.2
  | [], x, h => by simp [splitPick] at h
  | io :: rest, x, h => by
    simp only [splitPick] at h
    cases hp : isPick dj known io.2 with
    | true => rw [hp] at h; simp at h; subst h; rfl
    | false =>
      rw [hp] at h
      simp only [cond_false, Option.map_eq_some_iff] at h
      obtain ⟨y, hy, rfl⟩ := h
      rw [splitPick_eq hy]; rfl

theorem sel_eq {α : Type} (want b : Bool) (x y : α) : sel want b x y = bif b == want then x else y := by cases want <;> cases b <;> rfl

theorem quietly_some {σ σ' : AMem} {m : Option ρ} {r : ρ} (h : quietly σ σ' m = some r) : σ <+: σ' ∧ m = some r := by
  unfold quietly at h
  cases hq : Quiet.q σ σ' with
  | true => rw [hq] at h; exact ⟨Quiet.ok hq, h⟩
  | false => rw [hq] at h; cases h

theorem opx_adds {S : FuncId → Bool} {call : CallF} (hcall : ∀ f args σ v σ', S f = true → call f args σ = some (v, σ') → σ <+: σ') {q : Bool} {o : Oper} {regs : Regs} {σ : AMem} {K : Value → AMem → Option ρ} {r : ρ}
    (ha : opAdds P S o = true) (h : opx P call q o.op o.type (evr regs) σ K = some r) : ∃ v σ', K v σ' = some r ∧ σ <+: σ' := by
  by_cases hnc : ∀ c, o.op ≠ .call c
  · cases hc : cls0 P o with
    | pure => obtain ⟨v, h1, _⟩ := opx_pure hc h; exact ⟨v, σ, h1, List.prefix_rfl⟩
    | ld => obtain ⟨v, h1, _⟩ := opx_ld hc h; exact ⟨v, σ, h1, List.prefix_rfl⟩
    | al => obtain ⟨v, x, h1, _⟩ := opx_al hc hnc h; exact ⟨v, σ ++ [x], h1, ⟨[x], rfl⟩⟩
    | lo =>
      unfold opAdds at ha
      split at ha
      · rename_i c ho; exact absurd ho (hnc c)
      · rw [hc] at ha; cases ha
  · have : ∃ c, o.op = .call c := by
      apply Classical.byContradiction
      intro hq
      exact hnc fun c hc => hq ⟨c, hc⟩
    obtain ⟨c, ho⟩ := this
    simp only [opAdds, ho] at ha
    split at ha
    · rename_i f hcal
      rw [ho] at h
      simp only [opx, hcal, Option.bind_eq_some_iff, evr] at h
      obtain ⟨fv, hfv, h⟩ := h
      cases hfv
      obtain ⟨vs, h1, _⟩ := evs_spec h
      clear h
      simp only [Option.bind_eq_some_iff] at h1
      obtain ⟨⟨v, σ'⟩, hcl, h1⟩ := h1
      have hp : σ <+: σ' := hcall f _ σ v σ' ha (not_YF hcl).2
      cases hb : (q && !calmV P (.func (.func f) #[] #[])) with
      | true =>
        rw [hb] at h1
        simp only [quietlyB, cond_true] at h1
        exact ⟨v, σ', asRes_spec (quietly_some h1).2, hp⟩
      | false =>
        rw [hb] at h1
        simp only [quietlyB, cond_false] at h1
        exact ⟨v, σ', asRes_spec h1, hp⟩
    · rename_i b hcal
      cases hc : cls0 P o with
      | pure => obtain ⟨v, h1, _⟩ := opx_pure hc h; exact ⟨v, σ, h1, List.prefix_rfl⟩
      | ld => obtain ⟨v, h1, _⟩ := opx_ld hc h; exact ⟨v, σ, h1, List.prefix_rfl⟩
      | al =>
        simp only [cls0, ho, hcal] at hc
        cases b <;> cases hm : isMapT P c.argTypes.toList <;> simp [hm, clsB] at hc
      | lo => rw [hc] at ha; cases ha
    · cases ha

theorem keepP_spec {a : Option Addr} {σ σ' : AMem} {m : Option ρ} {r : ρ} (h : keepP a σ σ' m = some r) : m = some r ∧ ∀ b, a = some b → σ'[b.block]? = σ[b.block]? := by
  cases a with
  | none => exact ⟨h, fun b e => by cases e⟩
  | some b =>
    unfold keepP at h
    simp only at h
    cases hk : Quiet.k σ σ' b.block with
    | true => rw [hk] at h; exact ⟨h, fun b' e => by cases e; exact Quiet.kok hk⟩
    | false => rw [hk] at h; cases h

/-- What some registers point to has not turned. -/
def Kept (ts : List Nat) (E : Regs) (σ σ' : AMem) : Prop := ∀ t ∈ ts, ∃ a, E.getD t none = some (.pointer a) ∧ ∀ b, a = some b → σ'[b.block]? = σ[b.block]?

theorem keepsA_spec : ∀ {ts : List Nat} {regs : Regs} {σ σ' : AMem} {m : Option ρ} {r : ρ}, keepsA ts regs σ σ' m = some r → m = some r ∧ Kept ts regs σ σ'
  | [], regs, σ, σ', m, r, h => ⟨h, fun t ht => by cases ht⟩
  | t :: ts, regs, σ, σ', m, r, h => by
    simp only [keepsA] at h
    split at h
    · rename_i a ha
      obtain ⟨h1, h2⟩ := keepP_spec h
      obtain ⟨h3, h4⟩ := keepsA_spec h1
      refine ⟨h3, fun t' ht => ?_⟩
      rcases List.mem_cons.1 ht with rfl | ht
      · exact ⟨a, ha, h2⟩
      · exact h4 t' ht
    · cases h

theorem runOps_adds {S : FuncId → Bool} {call : CallF} (hcall : ∀ f args σ v σ', S f = true → call f args σ = some (v, σ') → σ <+: σ') {qf : Nat → QF} {all : List Oper} : ∀ (fuel : Nat) {ρ : Type} {known : List (Nat × Bool)} {ops : List (Nat × Oper)} {regs : Regs} {σ : AMem} {K : Regs → AMem → Option ρ} {r : ρ},
    runOps P call qf all fuel ρ known ops regs σ K = some r → (∀ io ∈ ops, opAdds P S io.2 = true) → ∃ regs' σ', K regs' σ' = some r ∧ σ <+: σ'
  | 0, ρ, known, ops, regs, σ, K, r, h, ha => by simp [runOps] at h
  | fuel + 1, ρ, known, ops, regs, σ, K, r, h, ha => by
    cases ops with
    | nil => simp only [runOps] at h; exact ⟨regs, σ, h, List.prefix_rfl⟩
    | cons io rest =>
      have one : (opx P call (qf io.1).1 io.2.op io.2.type (evr regs) σ fun v σ' => keepsA (qf io.1).2 regs σ σ' (runOps P call qf all fuel ρ known rest (putr regs io.2.dst (some v)) σ' K)) = some r → ∃ regs' σ', K regs' σ' = some r ∧ σ <+: σ' := by
        intro h
        obtain ⟨v, σ1, h1, h2⟩ := opx_adds hcall (ha io (by simp)) h
        obtain ⟨regs', σ', g1, g2⟩ := runOps_adds hcall fuel (keepsA_spec h1).1 (fun io' h' => ha io' (by simp [h']))
        exact ⟨regs', σ', g1, h2.trans g2⟩
      simp only [runOps] at h
      split at h
      · exact one h
      · rename_i j want hg
        cases hk : known.contains (j, want) with
        | true =>
          rw [hk] at h
          simp only [cond_true] at h
          split at h
          · rename_i b hr
            cases hbw : (b == want) with
            | false => rw [hbw] at h; cases h
            | true => rw [hbw] at h; exact one h
          · cases h
        | false =>
          rw [hk] at h
          simp only [cond_false] at h
          split at h
          · cases h
          · rename_i body p after hsp
            have hrest := splitPick_eq hsp
            simp only at hrest
            split at h
            · rename_i b hr
              simp only [Option.bind_eq_some_iff] at h
              obtain ⟨⟨rb, σ1⟩, h1, h2⟩ := h
              rw [sel_eq] at h1
              have fin : ∀ (regs' : Regs) (σ' : AMem), (((p.2.dst.bind fun d => regs'.getD d none).bind toB).bind fun r => some (r, σ')) = some (rb, σ1) → σ' = σ1 := by
                intro regs' σ' hq
                rw [Option.bind_eq_some_iff] at hq
                obtain ⟨x, hx, hxx⟩ := hq
                cases hxx
                rfl
              have hmem : ∀ io' ∈ io :: (body ++ [p]), opAdds P S io'.2 = true := by
                intro io' h'
                apply ha
                rw [hrest]
                simp at h' ⊢
                rcases h' with h' | h' | h' <;> simp [h']
              have grp : σ <+: σ1 := by
                cases hbw : (b == want) with
                | true =>
                  rw [hbw] at h1
                  simp only [cond_true] at h1
                  obtain ⟨regs', σ', g1, g2⟩ := runOps_adds hcall fuel h1 hmem
                  rw [← fin _ _ g1]; exact g2
                | false =>
                  rw [hbw] at h1
                  simp only [cond_false, Option.bind_eq_some_iff] at h1
                  obtain ⟨regs2, hs, h1⟩ := h1
                  obtain ⟨regs', σ', g1, g2⟩ := runOps_adds hcall fuel h1 (fun io' h' => hmem io' (by simp at h'; simp [h']))
                  rw [← fin _ _ g1]; exact g2
              obtain ⟨regs', σ', g1, g2⟩ := runOps_adds hcall fuel h2 (fun io' h' => ha io' (by rw [hrest]; simp [h']))
              exact ⟨regs', σ', g1, grp.trans g2⟩
            · cases h

theorem packs_mem {regs : Regs} {r : LOut} {x : AExit} {σ : AMem} : ∀ {os : List (Nat × Kd)} {acc : List Value → List Value}, packs regs os (fun vs => some (x, acc vs, σ)) = some r → r.2.2 = σ
  | [], acc, h => by simp only [packs] at h; cases h; rfl
  | (t, k) :: os, acc, h => by
    simp only [packs, Option.bind_eq_some_iff] at h
    obtain ⟨v, _, h⟩ := h
    exact packs_mem (acc := fun vs => acc (v :: vs)) h

theorem pack_mem {exits : List (AExit × List (Nat × Kd))} {x : AExit} {regs : Regs} {σ : AMem} {r : LOut} (h : pack exits x regs σ = some r) : r.2.2 = σ := by
  unfold pack at h
  simp only [Option.bind_eq_some_iff] at h
  obtain ⟨outs, _, h⟩ := h
  exact packs_mem (acc := id) h

theorem unexit_mem {x : AExit} {K : AExit → List (Nat × Kd) → Option ρ} {r : ρ} : ∀ {es : List (AExit × List (Nat × Kd))}, unexit x K es = some r → ∃ y outs, K y outs = some r
  | [], h => by cases h
  | e :: es, h => by
    simp only [unexit] at h
    split at h
    · exact ⟨_, _, h⟩
    · exact unexit_mem h

theorem asKs_mem {ks : List Kd} : ∀ {l : List Value} {K : List Value → Option ρ} {r : ρ}, asKs ks l K = some r → ∃ vs, K vs = some r := by
  induction ks with
  | nil => intro l K r h; exact ⟨_, h⟩
  | cons k ks ih =>
    intro l K r h
    simp only [asKs, Option.bind_eq_some_iff] at h
    obtain ⟨v, _, h⟩ := h
    obtain ⟨vs, h⟩ := ih (asK_spec h)
    exact ⟨_, h⟩

theorem unpack_mem {h : Hint} {c : Code} {regs : Regs} {r1 : LOut} {K : AExit → Regs → AMem → Option ρ} {r : ρ} (hu : unpack h c regs r1 K = some r) : ∃ x regs2, K x regs2 r1.2.2 = some r := by
  unfold unpack at hu
  obtain ⟨y, outs, hu⟩ := unexit_mem hu
  obtain ⟨vs, hu⟩ := asKs_mem hu
  exact ⟨_, _, hu⟩

theorem loopF_adds {B : Regs → AMem → (AExit → Regs → AMem → Option LOut) → Option LOut} {h : Hint} (hB : ∀ regs σ K r, B regs σ K = some r → ∃ x regs' σ', K x regs' σ' = some r ∧ σ <+: σ') : ∀ (n : Nat) {regs : Regs} {σ : AMem} {r : LOut}, loopF B h n regs σ = some r → σ <+: r.2.2
  | 0, _, _, _, e => by cases e
  | n + 1, regs, σ, r, e => by
    simp only [loopF] at e
    obtain ⟨x, regs', σ', g1, g2⟩ := hB _ _ _ _ e
    cases x with
    | normal => exact g2.trans (loopF_adds hB n g1)
    | exit i => rw [pack_mem g1]; exact g2
    | ret => rw [pack_mem g1]; exact g2

theorem exec_adds {S : FuncId → Bool} {call : CallF} (hcall : ∀ f args σ v σ', S f = true → call f args σ = some (v, σ') → σ <+: σ') {fid : FuncId} {H : Hints} {n : Nat} : ∀ (c : Code) {ρ : Type} {regs : Regs} {σ : AMem} {K : AExit → Regs → AMem → Option ρ} {r : ρ},
    addsC P S c = true → exec P call fid H n c ρ regs σ K = some r → ∃ x regs' σ', K x regs' σ' = some r ∧ σ <+: σ' := by
  intro c
  induction c with
  | skip => intro ρ regs σ K r ha h; exact ⟨_, _, _, h, List.prefix_rfl⟩
  | exit i => intro ρ regs σ K r ha h; exact ⟨_, _, _, h, List.prefix_rfl⟩
  | ret => intro ρ regs σ K r ha h; exact ⟨_, _, _, h, List.prefix_rfl⟩
  | region id ops draw =>
    intro ρ regs σ K r ha h
    simp only [exec] at h
    simp only [addsC, List.all_eq_true] at ha
    cases hd : (draw && !drawOk P ops.toList (needsQuiet P ops.toList draw)) with
    | true => rw [hd] at h; cases h
    | false =>
      rw [hd] at h
      simp only [cond_false] at h
      obtain ⟨regs', σ', g1, g2⟩ := runOps_adds hcall _ h (by
        intro io hio
        simp only [List.mem_map] at hio
        obtain ⟨x, hx, rfl⟩ := hio
        exact ha _ (by
          have := List.mem_zipIdx hx
          obtain ⟨_, h2, h3⟩ := this
          simp only at h3 ⊢
          rw [h3]; exact List.getElem_mem _))
      exact ⟨_, _, _, g1, g2⟩
  | seq a b iha ihb =>
    intro ρ regs σ K r ha h
    simp only [exec] at h
    simp only [addsC, Bool.and_eq_true] at ha
    obtain ⟨x, regs', σ', g1, g2⟩ := iha ha.1 h
    cases x with
    | normal =>
      obtain ⟨y, regs2, σ2, k1, k2⟩ := ihb ha.2 g1
      exact ⟨y, regs2, σ2, k1, g2.trans k2⟩
    | exit i => exact ⟨_, _, _, g1, g2⟩
    | ret => exact ⟨_, _, _, g1, g2⟩
  | cond c a b iha ihb =>
    intro ρ regs σ K r ha h
    simp only [exec] at h
    simp only [addsC, Bool.and_eq_true] at ha
    split at h
    · rename_i bb hb
      split at h
      · cases bb with
        | true => exact iha ha.1 h
        | false => exact ihb ha.2 h
      · simp only [Option.bind_eq_some_iff] at h
        obtain ⟨r1, h1, h2⟩ := h
        have hp : σ <+: r1.2.2 := by
          cases bb with
          | true =>
            obtain ⟨x, regs', σ', g1, g2⟩ := iha ha.1 h1
            rw [pack_mem g1]; exact g2
          | false =>
            obtain ⟨x, regs', σ', g1, g2⟩ := ihb ha.2 h1
            rw [pack_mem g1]; exact g2
        obtain ⟨x, regs2, k⟩ := unpack_mem h2
        exact ⟨x, regs2, _, k, hp⟩
    · cases h
  | block id c ih =>
    intro ρ regs σ K r ha h
    simp only [exec] at h
    simp only [addsC] at ha
    obtain ⟨x, regs', σ', g1, g2⟩ := ih ha h
    cases x with
    | normal => exact ⟨_, _, _, g1, g2⟩
    | exit i =>
      simp only at g1
      split at g1
      · exact ⟨_, _, _, g1, g2⟩
      · exact ⟨_, _, _, g1, g2⟩
    | ret => exact ⟨_, _, _, g1, g2⟩
  | loop c ih =>
    intro ρ regs σ K r ha h
    simp only [exec] at h
    simp only [addsC] at ha
    split at h
    · cases h
    · simp only [Option.bind_eq_some_iff] at h
      obtain ⟨r1, h1, h2⟩ := h
      have hp := loopF_adds (fun regs σ K r e => ih ha e) n h1
      obtain ⟨x, regs2, k⟩ := unpack_mem h2
      exact ⟨x, regs2, _, k, hp⟩
  | _ => intro ρ regs σ K r ha h; simp [addsC] at ha

/-- Known functions only add to memory. -/
def ExtAdds (X : Ext) : Prop := ∀ f g, X f = some g → ∀ args σ v σ', g args σ = some (v, σ') → σ <+: σ'

theorem fn_adds {X : Ext} (hX : ExtAdds X) {H : FuncId → Hints} : ∀ (d k : Nat) (f : FuncId) (args : List Value) (σ : AMem) (v : Value) (σ' : AMem), addsF P d f = true → fn P X H k f args σ = some (v, σ') → σ <+: σ'
  | 0, _, _, _, _, _, _, h, _ => by cases h
  | d + 1, 0, _, _, _, _, _, _, h => by cases h
  | d + 1, k + 1, f, args, σ, v, σ', ha, h => by
    have ih := fn_adds hX (H := H) d k
    simp only [addsF] at ha
    have hny : Nat.beq f YF = false := by
      cases hb : Nat.beq f YF with
      | true => rw [hb] at ha; cases ha
      | false => rfl
    simp only [fn, hny, cond_false] at h ha
    split at h
    · rename_i g hg
      exact hX f g hg args σ v σ' h
    · split at h
      · cases h
      · rename_i F hF
        simp only [hF] at ha
        split at h
        · cases h
        · rename_i c hb
          rw [hb] at ha
          simp only at ha
          split at h
          · cases h
          · obtain ⟨x, regs', σ1, hK, hp⟩ := exec_adds ih c ha h
            have : σ' = σ1 := by
              unfold fin at hK
              split at hK
              · cases hK
              · simp only [Option.bind_eq_some_iff] at hK
                obtain ⟨vs, _, hK⟩ := hK
                cases hK; rfl
            rw [this]; exact hp

end Go.AX
