/-
  The operations that only compute: all of them.
-/
import Derived.Test.YtilefhlamdiomaaGreatAX3
set_option linter.unusedSimpArgs false
set_option linter.unusedVariables false
set_option linter.unusedSectionVars false
namespace Go.AX
open Go
variable {ρ : Type} {P : Program} [Quiet]

theorem run_execOp_value {o : Oper} {f : Operand → Value} {w w' : World} {v : Value} {s : Sem Value} (h : execOp f o = (do pure (.value (← s)) : Sem Next)) (hs : s.run P w = .ok v w') :
    (execOp f o).run P w = .ok (.value v) w' := by
  rw [h]; simp [hs]

theorem exec_builtin {f : Operand → Value} {o : Oper} {c : Call} {b : Builtin} (ho : o.op = .call c) (hb : c.callee = .builtin b) :
    ∃ cs, execOp f o = builtin b c.argTypes o.type cs (c.args.toList.map f).toArray := by
  have : (c.args.toList.map f).toArray = c.args.map f := by rw [← Array.toList_map, Array.toArray_toList]
  rw [this]
  unfold execOp
  rw [ho]
  refine ⟨c.args.map fun | .const _ => true | _ => false, ?_⟩
  show (do let d ← resolve f c o.type; invoke d.target d.args : Sem Next) = _
  unfold resolve
  rw [hb]
  rfl

theorem toList_eq {α : Type} {a : Array α} {l : List α} (h : a.toList = l) : a = l.toArray := by cases a; simp at h; simp [h]

theorem opx_pure {o : Oper} {call : CallF} {q : Bool} {e : Operand → Option Value} {σ : AMem} {K : Value → AMem → Option ρ} {r : ρ} (hc : cls0 P o = .pure)
    (h : opx P call q o.op o.type e σ K = some r) : ∃ v, K v σ = some r ∧ PureOk P o e v := by
  cases ho : o.op
  case build T parts =>
    rw [ho] at h
    obtain ⟨v, h1, h2⟩ := opx_build h
    exact ⟨v, h1, h2 o ho⟩
  case move x =>
    rw [ho] at h
    simp only [opx, Option.bind_eq_some_iff] at h
    obtain ⟨v, hv, h⟩ := h
    exact ⟨v, h, fun μ w f hf => ⟨f x, by simp [execOp, ho], hf x v hv⟩⟩
  case assign x =>
    rw [ho] at h
    simp only [opx, Option.bind_eq_some_iff] at h
    obtain ⟨v, hv, h⟩ := h
    exact ⟨v, h, fun μ w f hf => ⟨f x, by simp [execOp, ho], hf x v hv⟩⟩
  case pick c a b =>
    rw [ho] at h
    simp only [opx, Option.bind_eq_some_iff] at h
    obtain ⟨v, hv, h⟩ := h
    split at h
    · simp only [Option.bind_eq_some_iff] at h
      obtain ⟨u, hu, h⟩ := h
      refine ⟨u, h, fun μ w f hf => ⟨f a, ?_, hf a u hu⟩⟩
      have := hf c _ hv
      cases hfc : f c <;> rw [hfc] at this <;> cases this
      simp [execOp, ho, hfc, asBool]
    · simp only [Option.bind_eq_some_iff] at h
      obtain ⟨u, hu, h⟩ := h
      refine ⟨u, h, fun μ w f hf => ⟨f b, ?_, hf b u hu⟩⟩
      have := hf c _ hv
      cases hfc : f c <;> rw [hfc] at this <;> cases this
      simp [execOp, ho, hfc, asBool]
    · cases h
  case nilCheck x =>
    rw [ho] at h
    simp only [opx, Option.bind_eq_some_iff] at h
    obtain ⟨v, hv, h⟩ := h
    unfold nilV at h
    split at h
    · simp only [Option.bind_eq_some_iff] at h
      obtain ⟨a, ha, h⟩ := h
      subst ha
      refine ⟨_, h, fun μ w f hf => ?_⟩
      have hr := hf x _ hv
      refine ⟨f x, ?_, hr⟩
      generalize hfx : f x = fx at hr
      cases hr
      simp [execOp, ho, hfx]
    · refine ⟨_, h, fun μ w f hf => ?_⟩
      have hr := hf x _ hv
      refine ⟨f x, ?_, hr⟩
      generalize hfx : f x = fx at hr
      cases hr
      simp [execOp, ho, hfx]
    · refine ⟨_, h, fun μ w f hf => ?_⟩
      have hr := hf x _ hv
      refine ⟨f x, ?_, hr⟩
      generalize hfx : f x = fx at hr
      cases hr
      simp [execOp, ho, hfx]
    · cases h
  case binOp op T x y yT =>
    rw [ho] at h
    simp only [opx, Option.bind_eq_some_iff] at h
    obtain ⟨a, ha, b, hb, h⟩ := h
    obtain ⟨v, h1, h2, h3⟩ := binA_spec h
    refine ⟨v, h1, fun μ w f hf => ⟨v, ?_, .leafOk h2⟩⟩
    exact run_execOp_value (by simp only [execOp, ho] <;> rfl) (h3 μ _ _ (hf x a ha) (hf y b hb) w x y)
  case unOp op T x =>
    rw [ho] at h
    simp only [opx, Option.bind_eq_some_iff] at h
    obtain ⟨a, ha, h⟩ := h
    obtain ⟨v, h1, h2, h3⟩ := unA_spec (P := P) h
    exact ⟨v, h1, fun μ w f hf => ⟨v, run_execOp_value (by simp only [execOp, ho] <;> rfl) (h3 μ _ (hf x a ha) w), .leafOk h2⟩⟩
  case convert s d x =>
    rw [ho] at h
    simp only [opx, Option.bind_eq_some_iff] at h
    obtain ⟨a, ha, h⟩ := h
    split at h
    · rename_i hs hd
      refine ⟨_, h, fun μ w f hf => ⟨_, ?_, .int _ _⟩⟩
      have hr := hf x _ ha
      generalize hfx : f x = fx at hr
      cases hr
      refine run_execOp_value (by simp only [execOp, ho] <;> rfl) ?_
      simp only [hfx, convert, Sem.run_bind, run_underlying hs, run_underlying hd, Result.andThen_ok, Conv.intToInt, Sem.run_pure]
    · cases h
  case makeInterface T x =>
    rw [ho] at h
    simp only [opx, Option.bind_eq_some_iff] at h
    obtain ⟨a, ha, h⟩ := h
    split at h
    · cases h
    · rename_i d hn hd
      refine ⟨_, h, fun μ w f hf => ⟨_, ?_, .iface (hf x a ha)⟩⟩
      refine run_execOp_value (by simp only [execOp, ho] <;> rfl) ?_
      exact run_makeInterface w T _ (by unfold Program.concrete; rw [hd]; cases d <;> first | rfl | exact absurd rfl (hn _))
    · cases h
  case makeFunc fn first cap =>
    rw [ho] at h
    simp only [opx] at h
    split at h
    · cases h
    rename_i hny
    obtain ⟨vs, h, h1⟩ := evs_spec h
    obtain ⟨us, h, h2⟩ := evs_spec h
    refine ⟨_, h, fun μ w f hf => ⟨_, run_execOp_value (by simp only [execOp, ho] <;> rfl) rfl, ?_⟩⟩
    exact .func (fun l hl => hny l hl) (by simpa using h1 μ f hf) (by simpa using h2 μ f hf)
  case fieldAddr T x i =>
    rw [ho] at h
    simp only [opx, Option.bind_eq_some_iff] at h
    obtain ⟨ot, hot, v, hv, h⟩ := h
    split at h
    · simp only [Option.bind_eq_some_iff] at h
      obtain ⟨a, ha, s, hs, h⟩ := h
      split at h
      · cases h
      · rename_i hs0
        subst ha
        obtain ⟨fs, fx, hd, hfx, h1, h2⟩ := fieldOf_spec hot
        refine ⟨_, h, fun μ w f hf => ?_⟩
        have hr := hf x _ hv
        generalize hfx' : f x = fx' at hr
        cases hr with
        | @ptr _ k hk hsp =>
          refine ⟨.pointer (some ⟨k.b, k.o + (a.off + ot.1), none⟩), run_execOp_value (by simp only [execOp, ho] <;> rfl) ?_, RV.ptr (a := ⟨a.block, a.off + ot.1, none⟩) hk rfl⟩
          rw [hfx', ← Nat.add_assoc]
          simp only [Instr.fieldAt, Sem.run_bind, run_underlying hd, Result.andThen_ok, hfx, Instr.sureAddr, Sem.run_pure, fieldPlace, h2, run_sizeOf hs, Sem.run_ite, if_neg hs0, addr_add, h1]
    · cases h
  case field T x i =>
    rw [ho] at h
    simp only [opx, Option.bind_eq_some_iff] at h
    obtain ⟨ot, hot, v, hv, h⟩ := h
    obtain ⟨fs, fx, hd, hfx, h1, h2⟩ := fieldOf_spec hot
    split at h
    · rename_i vs
      cases hb : isAggB P ot.2 with
      | true =>
        rw [hb] at h
        simp only [cond_true, Option.bind_eq_some_iff] at h
        obtain ⟨s, hs, h⟩ := h
        refine ⟨_, h, fun μ w f hf => ?_⟩
        have hr := hf x _ hv
        generalize hfx' : f x = fx' at hr
        cases hr with
        | agg hr hl =>
          rename_i vs'
          obtain ⟨d, hdt⟩ : ∃ d, P.underlying ot.2 = some d := by
            unfold isAggB at hb; cases hq : P.underlying ot.2 with
            | none => simp [hq] at hb
            | some d => exact ⟨d, rfl⟩
          refine ⟨.agg (vs'.extract ot.1 (ot.1 + s)), run_execOp_value (by simp only [execOp, ho] <;> rfl) ?_, .agg ?_ ?_⟩
          · rw [hfx']
            simp only [Instr.field, Sem.run_bind, run_underlying hd, Result.andThen_ok, hfx, asAgg, Sem.run_pure, part, h2, isAgg_run hdt, hb, if_true, run_sizeOf hs, h1]
          · have := (hr.drop ot.1).take s
            simpa [List.extract_eq_take_drop] using this
          · intro y hy
            simp only at hy
            exact hl y (List.mem_of_mem_drop (List.mem_of_mem_take hy))
      | false =>
        rw [hb] at h
        simp only [cond_false, Option.bind_eq_some_iff] at h
        obtain ⟨d, hq, u, hu, h⟩ := h
        refine ⟨u, h, fun μ w f hf => ?_⟩
        have hr := hf x _ hv
        generalize hfx' : f x = fx' at hr
        cases hr with
        | agg hr hl =>
          rename_i vs'
          obtain ⟨u', hu', hru⟩ := hr.get _ _ hu
          refine ⟨u', run_execOp_value (by simp only [execOp, ho] <;> rfl) ?_, hru⟩
          rw [hfx']
          have hu'' : vs'[ot.1]? = some u' := by simpa using hu'
          simp only [Instr.field, Sem.run_bind, run_underlying hd, Result.andThen_ok, hfx, asAgg, Sem.run_pure, part, h2, isAgg_run hq, hb, Bool.false_eq_true, if_false, h1, hu'']
    · cases h
  case index T x i =>
    rw [ho] at h
    simp only [opx, Option.bind_eq_some_iff] at h
    obtain ⟨⟨len, E⟩, hE, v, hv, u, hu, h⟩ := h
    have hT := arrOf_spec hE
    split at h
    · rename_i vs k n
      cases hb : isAggB P E with
      | true => rw [hb] at h; cases h
      | false =>
        rw [hb] at h
        simp only [cond_false] at h
        split at h
        · rename_i hn
          simp only [Option.bind_eq_some_iff] at h
          obtain ⟨d, hq, s, hs, y, hy, h⟩ := h
          replace h := asK_spec h
          refine ⟨y, h, fun μ w f hf => ?_⟩
          have hr := hf x _ hv
          have hi := hf i _ hu
          generalize hfx : f x = fx at hr
          generalize hfi : f i = fi at hi
          cases hi
          cases hr with
          | agg hr hl =>
            rename_i vs'
            obtain ⟨y', hy', hry⟩ := hr.get _ _ hy
            have hy'' : vs'[n.toNat * s]? = some y' := by simpa using hy'
            refine ⟨y', run_execOp_value (by simp only [execOp, ho] <;> rfl) ?_, hry⟩
            rw [hfx, hfi]
            simp only [Instr.index, asIntOf, Sem.run_bind, Sem.run_pure, Result.andThen_ok, run_underlying hT]
            rw [if_pos hn]
            simp only [Sem.run_bind, run_sizeOf hs, Result.andThen_ok, part, isAgg_run hq, hb, Bool.false_eq_true, if_false, hy'', Sem.run_pure]
        · cases h
    · cases h
  case indexAddr T x i =>
    rw [ho] at h
    cases hA : arrOf P T with
    | some le =>
      obtain ⟨len, E⟩ := le
      simp only [opx, hA, Option.bind_eq_some_iff] at h
      obtain ⟨s, hs, v, hv, u, hu, h⟩ := h
      have hT := arrOf_spec hA
      split at h
      · rename_i a k n
        simp only [Option.bind_eq_some_iff] at h
        obtain ⟨a', ha, h⟩ := h
        subst ha
        split at h
        · rename_i hn
          refine ⟨_, h, fun μ w f hf => ?_⟩
          have hr := hf x _ hv
          have hi := hf i _ hu
          generalize hfx : f x = fx at hr
          generalize hfi : f i = fi at hi
          cases hi
          cases hr with
          | @ptr _ k' hk hsp =>
            refine ⟨.pointer (some ⟨k'.b, k'.o + (a'.off + n.toNat * s), none⟩), run_execOp_value (by simp only [execOp, ho] <;> rfl) ?_, RV.ptr (a := ⟨a'.block, a'.off + n.toNat * s, none⟩) hk rfl⟩
            rw [hfx, hfi, ← Nat.add_assoc]
            simp only [Instr.indexAt, asIntOf, Sem.run_bind, Sem.run_pure, Result.andThen_ok, run_underlying hT, Instr.sureAddr]
            rw [if_pos hn]
            simp only [Sem.run_bind, run_sizeOf hs, Result.andThen_ok, Sem.run_pure, addr_add]
        · cases h
      · cases h
    | none =>
    simp only [opx, hA, Option.bind_eq_some_iff] at h
    obtain ⟨E, hE, s, hs, v, hv, u, hu, h⟩ := h
    have hT := elemOfS_spec hE
    split at h
    · rename_i a len cap k n
      split at h
      · rename_i hn
        simp only [Option.bind_eq_some_iff] at h
        obtain ⟨a', ha, h⟩ := h
        subst ha
        refine ⟨_, h, fun μ w f hf => ?_⟩
        have hr := hf x _ hv
        have hi := hf i _ hu
        generalize hfx : f x = fx at hr
        generalize hfi : f i = fi at hi
        cases hi
        cases hr with
        | @slice _ k' _ _ _ hk hsp hl hc hm =>
          refine ⟨.pointer (some ⟨k'.b, k'.o + (a'.off + n.toNat * s), none⟩), run_execOp_value (by simp only [execOp, ho] <;> rfl) ?_, RV.ptr (a := ⟨a'.block, a'.off + n.toNat * s, none⟩) hk rfl⟩
          rw [hfx, hfi, ← Nat.add_assoc]
          simp only [Instr.indexAt, asIntOf, Sem.run_bind, Sem.run_pure, Result.andThen_ok, run_underlying hT]
          rw [if_pos hn]
          simp only [Sem.run_bind, run_sizeOf hs, Result.andThen_ok, Sem.run_pure, addr_add]
        | sliceEnd hk hsp hm => omega
        | sliceZ y hz => omega
      · cases h
    · cases h
  case extract x i =>
    rw [ho] at h
    simp only [opx, Option.bind_eq_some_iff] at h
    obtain ⟨v, hv, h⟩ := h
    split at h
    · simp only [Option.bind_eq_some_iff] at h
      obtain ⟨u, hu, h⟩ := h
      refine ⟨u, h, fun μ w f hf => ?_⟩
      have hr := hf x _ hv
      generalize hfx : f x = fx at hr
      cases hr with
      | tuple hr =>
        rename_i vs'
        obtain ⟨u', hu', hru⟩ := hr.get _ _ hu
        refine ⟨u', run_execOp_value (by simp only [execOp, ho] <;> rfl) ?_, hru⟩
        have hu'' : vs'[i]? = some u' := by simpa using hu'
        simp only [hfx, Instr.extract, hu'', Sem.run_pure]
    · cases h
  case call c =>
    rw [ho] at h
    simp only [cls0, ho] at hc
    split at hc
    · rename_i b hb
      simp only [opx, hb] at h
      obtain ⟨vs, h, hvs⟩ := evs_spec h
      cases b <;> simp only [clsB] at hc <;> first
        | (cases hc; done)
        | skip
      case len =>
        cases hm : isMapT P c.argTypes.toList <;> rw [hm] at hc <;> simp only [clsB] at hc
        · simp only [builtinA, lenA] at h
          split at h
          rotate_left
          · cases h
          rename_i t v hts
          split at h
          · rename_i n _ hd
            refine ⟨_, h, fun μ w f hf => ?_⟩
            obtain ⟨cs, hex⟩ := exec_builtin (f := f) ho hb
            have hr := hvs μ f hf
            generalize c.args.toList.map f = l at hr hex
            cases hr with
            | cons h1 h2 =>
              cases h2
              refine ⟨_, ?_, .int _ _⟩
              rw [hex, toList_eq hts]
              cases h1 <;> simp [builtin, Builtin.len_, run_underlying hd, goInt]
          · rename_i s hd
            refine ⟨_, h, fun μ w f hf => ?_⟩
            obtain ⟨cs, hex⟩ := exec_builtin (f := f) ho hb
            have hr := hvs μ f hf
            generalize c.args.toList.map f = l at hr hex
            cases hr with
            | cons h1 h2 =>
              cases h2
              refine ⟨_, ?_, .int _ _⟩
              rw [hex, toList_eq hts]
              cases h1 <;> simp [builtin, Builtin.len_, run_underlying hd, goInt]
          · rename_i hd
            rw [hts] at hm
            simp [isMapT, hd] at hm
          · cases h
        · cases hc
      case max =>
        simp only [builtinA, maxA] at h
        split at h
        rotate_left
        · cases h
        rename_i k x k' y
        split at h
        · rename_i hk; subst hk
          refine ⟨_, h, fun μ w f hf => ?_⟩
          obtain ⟨cs, hex⟩ := exec_builtin (f := f) ho hb
          have hr := hvs μ f hf
          generalize c.args.toList.map f = l at hr hex
          cases hr with
          | cons h1 h2 =>
            cases h2 with
            | cons h2 h3 =>
              cases h3; cases h1; cases h2
              refine ⟨_, ?_, .int _ _⟩
              rw [hex]
              simp [builtin, Builtin.max_, Builtin.max2]
        · cases h
      case min =>
        simp only [builtinA, minA] at h
        split at h
        rotate_left
        · cases h
        rename_i k x k' y
        split at h
        · rename_i hk; subst hk
          refine ⟨_, h, fun μ w f hf => ?_⟩
          obtain ⟨cs, hex⟩ := exec_builtin (f := f) ho hb
          have hr := hvs μ f hf
          generalize c.args.toList.map f = l at hr hex
          cases hr with
          | cons h1 h2 =>
            cases h2 with
            | cons h2 h3 =>
              cases h3; cases h1; cases h2
              refine ⟨_, ?_, .int _ _⟩
              rw [hex]
              simp [builtin, Builtin.min_, Builtin.min2]
        · cases h
    · cases hc
  all_goals (rw [ho] at h; first | (simp only [opx] at h; cases h; done) | (simp [cls0, ho] at hc; done))

end Go.AX
