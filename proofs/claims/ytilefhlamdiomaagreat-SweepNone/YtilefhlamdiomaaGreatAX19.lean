/-
  Functions: the executor is sound.
-/
import Derived.Test.YtilefhlamdiomaaGreatAX18
import Derived.RangeFuncLeaves
set_option linter.unusedSimpArgs false
set_option linter.unusedVariables false
set_option linter.unusedSectionVars false
namespace Go.AX
open Go
variable {ρ : Type} {P : Program} [Quiet]

/-- A result, read. -/
def resM (tmps : Array Value) (r : ResultVar) : Sem Value :=
  match r with
  | .tmp t => pure (tmps.getD t undef)
  | .cell a t => do loadVar t (← asAddr (tmps.getD a undef))

theorem resOne_spec {μ : Mu} {σ : AMem} {w : World} {regs : Regs} {tmps : Array Value} (hR : R P μ σ w) (hreg : RegR μ regs tmps) {r : ResultVar} {v : Value} (h : resOne P regs σ r = some v) :
    ∃ v', RV μ v v' ∧ (resM tmps r).run P w = .ok v' w := by
  cases r with
  | tmp t =>
    simp only [resOne] at h
    obtain ⟨v', h1, h2⟩ := hreg.2 t v h
    refine ⟨v', h2, ?_⟩
    simp [resM, Array.getD_eq_getD_getElem?, h1]
  | cell t T =>
    simp only [resOne, Option.bind_eq_some_iff] at h
    obtain ⟨u, hu, h⟩ := h
    obtain ⟨u', h1, h2⟩ := hreg.2 t u hu
    split at h
    · rename_i a
      obtain ⟨k, hk, hv⟩ := rv_ptr h2
      have hget : tmps.getD t undef = .pointer (some ⟨k.b, k.o + a.off, none⟩) := by simp [Array.getD_eq_getD_getElem?, h1, hv]
      cases hb : isAggB P T with
      | true =>
        rw [hb] at h
        simp only [cond_true, Option.bind_eq_some_iff] at h
        obtain ⟨s, hs, vs, hvs, h⟩ := h
        cases h
        obtain ⟨hl, hld⟩ := ldN_ld1 hvs
        obtain ⟨vs', hr, hrun, hleaf⟩ := run_loadCells_of hR hk hl hld
        obtain ⟨d, hd⟩ : ∃ d, P.underlying T = some d := by
          unfold isAggB at hb; cases hq : P.underlying T with
          | none => simp [hq] at hb
          | some d => exact ⟨d, rfl⟩
        refine ⟨.agg vs'.toArray, .agg (by simpa using hr) (by simpa using hleaf), ?_⟩
        simp only [resM, hget, asAddr, Sem.run_bind, Sem.run_pure, Result.andThen_ok, loadVar, isAgg_run hd, hb, if_true, run_sizeOf hs, hrun]
      | false =>
        rw [hb] at h
        simp only [cond_false, Option.bind_eq_some_iff] at h
        obtain ⟨d, hd, h⟩ := h
        obtain ⟨v', hc, hr, _⟩ := cell_of hR h hk
        refine ⟨v', hr, ?_⟩
        simp only [resM, hget, asAddr, Sem.run_bind, Sem.run_pure, Result.andThen_ok, loadVar, isAgg_run hd, hb, Bool.false_eq_true, if_false, run_load, hc]
    · cases h

theorem resAll_spec {μ : Mu} {σ : AMem} {w : World} {regs : Regs} {tmps : Array Value} (hR : R P μ σ w) (hreg : RegR μ regs tmps) : ∀ {rs : List ResultVar} {vs : List Value}, resAll P regs σ rs = some vs →
    ∃ vs', RVs μ vs vs' ∧ (rs.mapM (resM tmps)).run P w = .ok vs' w
  | [], vs, h => by simp [resAll] at h; subst h; exact ⟨[], .nil, by simp⟩
  | r :: rs, vs, h => by
    simp only [resAll, Option.bind_eq_some_iff] at h
    obtain ⟨v, hv, us, hus, h⟩ := h
    cases h
    obtain ⟨v', h1, h2⟩ := resOne_spec hR hreg hv
    obtain ⟨us', g1, g2⟩ := resAll_spec hR hreg hus
    refine ⟨v' :: us', .cons h1 g1, ?_⟩
    simp only [List.mapM_cons, Sem.run_bind, h2, Result.andThen_ok, g2, Sem.run_pure]

theorem fin_spec {μ : Mu} {σ σ' : AMem} {w : World} {regs : Regs} {tmps : Array Value} {F : Func} {x : AExit} {v : Value} (hR : R P μ σ w) (hreg : RegR μ regs tmps) (h : fin P F x regs σ = some (v, σ')) :
    σ' = σ ∧ (x = .normal ∨ x = .ret) ∧ ∃ v', RV μ v v' ∧ (results F tmps).run P w = .ok v' w := by
  have main : (resAll P regs σ F.results.toList).bind (fun vs => some (resOf vs, σ)) = some (v, σ') → σ' = σ ∧ ∃ v', RV μ v v' ∧ (results F tmps).run P w = .ok v' w := by
    intro h
    simp only [Option.bind_eq_some_iff] at h
    obtain ⟨vs, hvs, h⟩ := h
    cases h
    refine ⟨rfl, ?_⟩
    obtain ⟨vs', h1, h2⟩ := resAll_spec hR hreg hvs
    have hrun : (F.results.mapM (resM tmps)).run P w = .ok vs'.toArray w := by
      rw [Array.mapM_eq_mapM_toList]
      simp only [Sem.run_map, h2, Result.andThen_ok]
    have hres : results F tmps = (do
        let vs ← F.results.mapM (resM tmps)
        pure (if h : vs.size = 1 then vs[0] else .tuple vs)) := rfl
    rw [hres]
    simp only [Sem.run_bind, hrun, Result.andThen_ok, Sem.run_pure]
    cases h1 with
    | nil => exact ⟨_, .tuple .nil, rfl⟩
    | cons h1 t =>
      cases t with
      | nil => exact ⟨_, h1, rfl⟩
      | cons h3 t => exact ⟨_, .tuple (.cons h1 (.cons h3 t)), rfl⟩
  unfold fin at h
  cases x with
  | exit id => cases h
  | normal => obtain ⟨h1, h2⟩ := main h; exact ⟨h1, .inl rfl, h2⟩
  | ret => obtain ⟨h1, h2⟩ := main h; exact ⟨h1, .inr rfl, h2⟩

theorem fin_mem {σ σ' : AMem} {regs : Regs} {F : Func} {x : AExit} {v : Value} (h : fin P F x regs σ = some (v, σ')) : σ' = σ := by
  unfold fin at h
  cases x <;> simp only at h
  · simp only [Option.bind_eq_some_iff] at h; obtain ⟨_, _, h⟩ := h; cases h; rfl
  · cases h
  · simp only [Option.bind_eq_some_iff] at h; obtain ⟨_, _, h⟩ := h; cases h; rfl

def ExtOk (P : Program) (X : Ext) : Prop := ∀ f g, X f = some g → CallOk P (fun f' args σ => if f' = f then g args σ else none)

theorem regR_init {μ : Mu} {args : List Value} {cargs : Array Value} (h : RVs μ args cargs.toList) (n : Nat) : RegR μ (args.map some ++ List.replicate (n - args.length) (some undef)) (cargs ++ Array.replicate (n - cargs.size) undef) := by
  have hl := h.length
  simp only [Array.length_toList] at hl
  refine ⟨by simp; omega, fun t v hv => ?_⟩
  rw [List.getD_eq_getElem?_getD] at hv
  by_cases ht : t < args.length
  · rw [List.getElem?_append_left (by simpa using ht), List.getElem?_map, List.getElem?_eq_getElem ht] at hv
    simp at hv
    subst hv
    obtain ⟨v', h1, h2⟩ := h.get t _ (List.getElem?_eq_getElem ht)
    refine ⟨v', ?_, h2⟩
    rw [Array.getElem?_append_left (by omega)]
    simpa using h1
  · rw [List.getElem?_append_right (by simp; omega)] at hv
    simp only [List.length_map, List.getElem?_replicate] at hv
    split at hv
    · simp at hv; subst hv
      refine ⟨undef, ?_, rv_undef⟩
      rw [Array.getElem?_append_right (by omega)]
      simp only [Array.getElem?_replicate]
      rw [if_pos (by omega)]
    · cases hv

/-- A block that belongs to no object turns. -/
theorem R.off {μ : Mu} {σ : AMem} {w : World} (h : R P μ σ w) {b : Nat} (hb : ∀ h k, μ h = some k → k.b ≠ b) (x : Obj) : R P μ σ (w.putObj b x) :=
  ⟨fun i o k ho hk => by rw [World.putObj_heap_other (hb i k hk)]; exact h.obj i o k ho hk, fun i k hk => by rw [World.putObj_size]; exact h.lt i k hk, h.inj⟩
theorem Step.off {μ0 μ : Mu} {σ0 σ : AMem} {w0 w : World} (h : Step μ0 σ0 w0 μ σ w) {b : Nat} (hb : w0.heap.size ≤ b) (x : Obj) : Step μ0 σ0 w0 μ σ (w.putObj b x) :=
  ⟨h.len, h.mu, h.wr, h.new, by rw [World.putObj_size]; exact h.size, h.tape, h.os, h.output, fun i hi hn => by rw [World.putObj_heap_other (by omega)]; exact h.frame i hi hn⟩

/-- A function leaves: its marks are taken. -/
theorem leaves_marks {F : Fence} {n : Nat} {fd : Func} {tmps : Array Value} {Q : Ending → World → Prop} {μ0 μ : Mu} {σ0 σ : AMem} {w0 : World} (hQ : ∀ w, R P μ σ w → Step μ0 σ0 w0 μ σ w → LeavesIn F n P fd tmps Q [] .returning w) :
    ∀ (ds : List Deferred) (w : World), MarkR w0.heap.size μ w ds → R P μ σ w → Step μ0 σ0 w0 μ σ w → LeavesInM F n P fd tmps Q ds .returning w
  | [], w, _, hR, hS => hQ w hR hS
  | d :: ds, w, hm, hR, hS => by
    obtain ⟨b, rfl, h1, h2, h3, h4⟩ := hm.1 d (by simp)
    have hnd := List.nodup_cons.1 hm.2
    refine ⟨fun hq => (by cases hq), .inl ⟨b, _, rfl, run_takeDeferred h3, ?_⟩⟩
    refine leaves_marks hQ ds _ ⟨fun d hd => ?_, hnd.2⟩ (hR.off h4 _) (hS.off h1 _)
    obtain ⟨b', hb, g1, g2, g3, g4⟩ := hm.1 d (by simp [hd])
    refine ⟨b', hb, g1, by rw [World.putObj_size]; exact g2, ?_, g4⟩
    rw [World.putObj_heap_other]
    · exact g3
    · rintro rfl; rw [hb] at hd; exact hnd.1 hd

theorem setLoop_spec {h : Nat} {σ : AMem} {old new : LSt} {K : FuncId → Regs → AMem → Option ρ} {r : ρ} (hh : setLoop h σ old new K = some r) :
    ∃ f regs, σ[h]? = some (.loop f old regs) ∧ K f regs (σ.set h (.loop f new regs)) = some r := by
  unfold setLoop at hh
  split at hh
  · rename_i hs
    split at hh
    · rename_i he; subst he; exact ⟨_, _, hs, hh⟩
    · cases hh
  · cases hh

theorem setPs_length : ∀ (ts : List Tmp) (vs : List Value) (regs : Regs), (setPs ts vs regs).length = regs.length
  | [], _, _ => by simp [setPs]
  | _ :: _, [], _ => by simp [setPs]
  | t :: ts, v :: vs, regs => by rw [setPs, setPs_length]; simp

theorem regR_setPs {μ : Mu} : ∀ {ts : List Tmp} {vs vs' : List Value} {regs : Regs} {tmps : Array Value}, RVs μ vs vs' → RegR μ regs tmps →
    RegR μ (setPs ts vs regs) ((ts.zip vs').foldl (fun tmps (x : Tmp × Value) => tmps.setIfInBounds x.1 x.2) tmps)
  | [], _, _, _, _, _, hr => by simpa [setPs] using hr
  | _ :: _, _, _, _, _, .nil, hr => by simpa [setPs] using hr
  | t :: ts, _, _, regs, tmps, .cons (v := v) (v' := v') h1 h2, hr => by
    simp only [setPs, List.zip_cons_cons, List.foldl_cons]
    refine regR_setPs h2 ?_
    have := RegR.put (a := { tmps := tmps, defers := [] }) hr (some t) h1
    simpa [putr, Act.put] using this

theorem round_post {l : Nat} {Q : Ending → World → Prop} {e : Exit} {a : Act} {w : World} {y : AExit} (he : ExitR y e) (h : ∃ v w', (Instr.endRound l (jumpOf y)).run P w = .ok v w' ∧ Q (.returned v) w') : roundPost P l Q e a w := by
  cases he <;> exact h

/-- A round. -/
theorem roundF_ok (hmix : P.follows .mixedOrders = true) {call : CallF} (hcall : CallOk P call) {H : FuncId → Hints} {n : Nat} {args : List Value} {σ : AMem} {v : Value} {σ' : AMem} (h : roundF P call H n args σ = some (v, σ')) :
    σ.length ≤ σ'.length ∧ YieldOk P args σ v σ' := by
  unfold roundF at h
  split at h
  rotate_left
  · cases h
  rename_i a vs
  obtain ⟨f, regs, hs, h⟩ := setLoop_spec h
  obtain ⟨F, hF, h⟩ := Option.bind_eq_some_iff.1 h
  obtain ⟨c, hc, h⟩ := Option.bind_eq_some_iff.1 h
  obtain ⟨x, hx, h⟩ := Option.bind_eq_some_iff.1 h
  split at h
  rotate_left
  · cases h
  rename_i hone
  have hin := theRange_in hx
  have leaf : ∀ z σ3, roundEnd a.block z σ3 = some (v, σ') → σ3.length ≤ σ'.length ∧
      ∃ f3 regs4, σ3[a.block]? = some (.loop f3 .busy regs4) ∧ v = .bool (jumpOf z).isNone ∧ σ' = σ3.set a.block (.loop f3 (if (jumpOf z).isNone then .ready else .done z) regs4) := by
    intro z σ3 hz
    cases z with
    | normal => simp only [roundEnd] at hz; obtain ⟨f3, regs4, hs3, hz⟩ := setLoop_spec hz; cases hz; exact ⟨by simp, f3, regs4, hs3, rfl, rfl⟩
    | exit id => simp only [roundEnd] at hz; obtain ⟨f3, regs4, hs3, hz⟩ := setLoop_spec hz; cases hz; exact ⟨by simp, f3, regs4, hs3, rfl, rfl⟩
    | ret => simp only [roundEnd] at hz; obtain ⟨f3, regs4, hs3, hz⟩ := setLoop_spec hz; cases hz; exact ⟨by simp, f3, regs4, hs3, rfl, rfl⟩
  -- what comes behind the assignments
  have body : ∀ (y : AExit) (regs1 : Regs) (σ1 : AMem), roundMid P call f (H f) n a.block x.2.2 y regs1 σ1 = some (v, σ') → y = .normal ∧
      ∃ f1 regs0, σ1[a.block]? = some (.loop f1 .ready regs0) ∧ σ1.length ≤ σ'.length ∧ ∀ ro, CodeOk ro 0 P x.2.2 regs1 (σ1.set a.block (.loop f1 .busy regs0)) (fun z _ σ3 => roundEnd a.block z σ3) (v, σ') := by
    intro y regs1 σ1 hb
    cases y with
    | exit id => cases hb
    | ret => cases hb
    | normal =>
    simp only [roundMid] at hb
    obtain ⟨f1, regs0, hs1, hb⟩ := setLoop_spec hb
    have ok := fun ro => exec_ok (ro := ro) (nn := 0) hmix hcall (fid := f) x.2.2 (Rg.zero (by omega)) hb
    obtain ⟨⟨z, r3, σ3, hk, hl⟩, _⟩ := ok none
    have := (leaf z σ3 hk).1
    exact ⟨rfl, f1, regs0, hs1, by simp at hl; omega, ok⟩
  have asg := fun ro => exec_ok (ro := ro) (nn := 0) hmix hcall (fid := f) x.2.1 (Rg.zero (by omega)) h
  have hK : ∀ (y : AExit) (regs1 : Regs) (σ1 : AMem), roundMid P call f (H f) n a.block x.2.2 y regs1 σ1 = some (v, σ') → σ1.length ≤ σ'.length := fun y regs1 σ1 hy => let ⟨_, _, _, _, hl, _⟩ := body y regs1 σ1 hy; hl
  refine ⟨?_, a, vs, rfl, fun μ w k cargs hR hfr hk hargs => ?_⟩
  · obtain ⟨⟨y, r1, σ1, hk, hl⟩, _⟩ := asg none
    exact Nat.le_trans hl (hK y r1 σ1 hk)
  obtain ⟨r, hr, ⟨F', c', hF', hc', hth⟩, hreg, hst⟩ := hR.obj _ _ _ hs hk
  rw [hF] at hF'; cases hF'
  rw [hc] at hc'; cases hc'
  rw [hx] at hth; cases hth
  have hsz : cargs.size = r.params.size := by
    have := hargs.length
    simp only [Array.length_toList] at this
    have h2 := hone.2
    simp only [Array.length_toList] at h2
    omega
  refine ⟨_, _, _, _, run_yield hr hsz, fun ro nn => ?_⟩
  have htm : (r.params.zip cargs).foldl (fun tmps (x : Tmp × Value) => tmps.setIfInBounds x.1 x.2) r.tmps = (r.params.toList.zip cargs.toList).foldl (fun tmps (x : Tmp × Value) => tmps.setIfInBounds x.1 x.2) r.tmps := by
    rw [← Array.foldl_toList, Array.toList_zip]
  have hfin : RoundIn (FW none) 0 P k.b r.fn ((r.params.zip cargs).foldl (fun tmps (x : Tmp × Value) => tmps.setIfInBounds x.1 x.2) r.tmps) r.assign r.body w (Post P μ σ w v σ') := by
    rw [htm]
    refine roundIn_of_wpIn trivial ?_
    have hwp := (asg (some k.b)).2 σ'.length hK 0 { tmps := (r.params.toList.zip cargs.toList).foldl (fun tmps (x : Tmp × Value) => tmps.setIfInBounds x.1 x.2) r.tmps, defers := [] } μ w (Nat.zero_le _) hR hfr (regR_setPs hargs hreg) (MarkR.nil _ _ _)
    refine wpIn_mono hwp ?_
    rintro e a1 w1 ⟨y, regs1, σ1, μ1, hy, hq, g1, g2, g3, g4, g5, g6⟩
    obtain ⟨rfl, f1, regs0, hs1, hl1, hok⟩ := body _ _ _ hq
    cases hy
    have hk1 : μ1 a.block = some k := by
      have hlt : a.block < σ.length := (List.getElem?_eq_some_iff.1 hs).1
      rw [g2.mu _ (.inl hlt)]; exact hk
    obtain ⟨r1, hr1, hl1', hreg1, hst1⟩ := g1.obj _ _ _ hs1 hk1
    obtain ⟨hR2, hS2⟩ := g1.record hk1 hs1 (o := .loop f1 .busy regs0) (x := .loop { r1 with state := .busy }) ⟨_, rfl, hl1', hreg1, rfl⟩
    have hfr2 : Fresh μ1 (σ1.set a.block (.loop f1 .busy regs0)).length σ'.length := by rw [List.length_set]; exact hfr.step g2
    refine ⟨_, run_beginRound hr1 hst1.1, ?_⟩
    refine wpIn_mono ((hok (some k.b)).2 σ'.length (fun z r3 σ3 hz => (leaf z σ3 hz).1) 0 a1 μ1 _ (Nat.zero_le _) hR2 hfr2 g3 (g4.step hS2)) ?_
    rintro e a3 w3 ⟨z, regs3, σ3, μ3, hz, hq3, k1, k2, k3, k4, k5, k6⟩
    obtain ⟨_, f3, regs4, hs3, rfl, rfl⟩ := leaf z σ3 hq3
    have hk3 : μ3 a.block = some k := by
      have hlt : a.block < (σ1.set a.block (.loop f1 .busy regs0)).length := by rw [List.length_set]; exact (List.getElem?_eq_some_iff.1 hs1).1
      rw [k2.mu _ (.inl hlt)]; exact hk1
    obtain ⟨r3, hr3, hl3, hreg3, hst3⟩ := k1.obj _ _ _ hs3 hk3
    refine round_post hz ⟨_, _, run_endRound _ hr3, ?_⟩
    obtain ⟨hR4, hS4⟩ := k1.record hk3 hs3 (o := .loop f3 (if (jumpOf z).isNone then .ready else .done z) regs4) (x := .loop { r3 with state := if (jumpOf z).isNone then .ready else .done, pending := jumpOf z }) ⟨_, rfl, hl3, hreg3, by
      cases z <;> exact ⟨rfl, rfl⟩⟩
    exact ⟨μ3, _, rfl, .bool _, hR4, ((g2.trans hS2).trans k2).trans hS4⟩
  exact ⟨trivial, fun c cs _ => hfin.2 c cs (room_wide _)⟩

theorem fn_ok (hmix : P.follows .mixedOrders = true) {X : Ext} (hX : ExtOk P X) (hXa : ExtAdds X) {H : FuncId → Hints} : ∀ k, CallOk P (fn P X H k)
  | 0 => ⟨fun f args σ v σ' _ h => (by cases h), fun args σ v σ' h => (by cases h)⟩
  | k + 1 => by
    have ih := fn_ok hmix hX hXa (H := H) k
    refine ⟨?_, ?_⟩
    · intro f args σ v σ' hny h
      have hcalm : calmF P f = true → σ <+: σ' := fun hf => fn_adds hXa 6 (k + 1) f args σ v σ' hf h
      simp only [fn] at h
      split at h
      · rename_i g hg
        have := (hX f g hg).fn f args σ v σ' hny (by simp only [if_true]; exact h)
        exact this
      · rename_i hXn
        have hb0 : Nat.beq f YF = false := by
          cases hb : Nat.beq f YF with
          | true => exact absurd (Nat.eq_of_beq_eq_true hb) hny
          | false => rfl
        rw [hb0, cond_false] at h
        split at h
        · cases h
        · rename_i F hF
          split at h
          · cases h
          · rename_i c hb
            split at h
            · cases h
            · rename_i hname
              have hrg : Rg P none f c := by
                cases hth : theRange c with
                | none => exact ⟨default, rgIn_none hth, fun hn => by
                    exfalso
                    exact absurd hth (by
                      intro hq
                      exact hn (by
                        have : ranges c = 0 := ranges_none hq
                        exact this))⟩
                | some x => exact ⟨x, rgIn_one (by omega) hth, fun _ => ⟨rfl, F, c, hF, hb, hth⟩⟩
              obtain ⟨⟨x, regs', σ1, hK, hl⟩, hwp⟩ := exec_ok (ro := none) (nn := 0) hmix ih c hrg h
              have hs := fin_mem hK
              subst hs
              refine ⟨hl, hcalm, ⟨F, hF, by rw [hb]; rfl, by simp only [not_or] at hname; simpa using hname.1⟩, fun μ w cargs hR hfr hargs => ?_⟩
              refine callsIn_wide.1 (callsIn_of_wp_marks (n := 0) hF hb trivial ?_)
              have hinit := regR_init hargs F.ntmps
              refine wpIn_mono (hwp σ'.length (fun x regs σ2 hq => by rw [fin_mem hq]; exact Nat.le_refl _) w.heap.size { tmps := cargs ++ Array.replicate (F.ntmps - cargs.size) undef, defers := [] } μ w (Nat.le_refl _) hR hfr hinit (MarkR.nil _ _ _)) ?_
              rintro e a' w' ⟨x', regs2, σ2, μ', hx, hq, g1, g2, g3, g4, g5, g6⟩
              obtain ⟨h1, h2, v', h3, h4⟩ := fin_spec g1 g3 hq
              subst h1
              have post : LeavesInM Fence.wide 0 P F a'.tmps (Post P μ σ w v σ') a'.defers .returning w' :=
                leaves_marks (fun w2 hR2 hS2 => by
                  obtain ⟨_, _, v2, q1, q2⟩ := fin_spec hR2 g3 hq
                  exact ⟨v2, q2, μ', v2, rfl, q1, hR2, hS2⟩) _ _ g4 g1 g2
              rcases h2 with rfl | rfl
              · cases hx; exact post
              · cases hx; exact post
    · intro args σ v σ' h
      simp only [fn] at h
      split at h
      · rename_i g hg
        exact (hX YF g hg).yld args σ v σ' (by simp only [if_true]; exact h)
      · rw [show Nat.beq YF YF = true from rfl, cond_true] at h
        exact roundF_ok hmix ih h

end Go.AX
