/-
  Stores; writes of maps.
-/
import Derived.Test.YtilefhlamdiomaaGreatAX7
set_option linter.unusedSimpArgs false
set_option linter.unusedVariables false
set_option linter.unusedSectionVars false
namespace Go.AX
open Go
variable {ρ : Type} {P : Program} [Quiet]

theorem R.upd {μ : Mu} {σ : AMem} {w w' : World} (hR : R P μ σ w) {h : Nat} {k : Blk} (hk : μ h = some k) (ha : alive σ h) (hwr : writable σ h) {o' : AObj} (hsz : w'.heap.size = w.heap.size)
    (hother : ∀ b, b ≠ k.b → w'.heap[b]? = w.heap[b]?) (ho : ObjR P μ o' k w'.heap[k.b]?) : R P μ (σ.set h o') w' := by
  have hal : ∀ x, alive (σ.set h o') x → alive σ x := by
    intro x ⟨o, ho, hd⟩
    by_cases hx : x = h
    · subst hx; exact ha
    · rw [List.getElem?_set_ne (Ne.symm hx)] at ho; exact ⟨o, ho, hd⟩
  refine ⟨?_, ?_, ?_⟩
  · intro x o kx hx hkx
    by_cases hxh : x = h
    · subst hxh
      rw [hk] at hkx; cases hkx
      obtain ⟨o0, ho0, _⟩ := ha
      have hlt : x < σ.length := (List.getElem?_eq_some_iff.1 ho0).1
      rw [List.getElem?_set_self hlt] at hx
      cases hx
      exact ho
    · rw [List.getElem?_set_ne (Ne.symm hxh)] at hx
      by_cases hd : o = .dead
      · subst hd; trivial
      · have hne : kx.b ≠ k.b := fun he => hxh (hR.inj x h kx k hkx hk ⟨o, hx, hd⟩ ha (.inr hwr) he)
        rw [hother _ hne]
        exact hR.obj x o kx hx hkx
  · intro x kx hkx; rw [hsz]; exact hR.lt x kx hkx
  · have hwal : ∀ x, writable (σ.set h o') x → writable σ x := by
      intro x hwx
      by_cases hx : x = h
      · subst hx; exact hwr
      · unfold writable at hwx ⊢
        rwa [List.getElem?_set_ne (Ne.symm hx)] at hwx
    intro a b ka kb h1 h2 h3 h4 h6 h5
    exact hR.inj a b ka kb h1 h2 (hal a h3) (hal b h4) (h6.imp (hwal a) (hwal b)) h5

theorem Step.upd {μ : Mu} {σ : AMem} {w w' : World} {h : Nat} {k : Blk} (hk : μ h = some k) (hl : h < σ.length) (hw : writable σ h) {o' : AObj} (hsz : w'.heap.size = w.heap.size) (ht : w'.tape = w.tape) (hos : w'.os = w.os) (hout : w'.output = w.output)
    (hother : ∀ b, b ≠ k.b → w'.heap[b]? = w.heap[b]?) : Step μ σ w μ (σ.set h o') w' := by
  refine ⟨by simp, fun _ _ => rfl, ?_, ?_, by omega, ht, hos, hout, ?_⟩
  · intro x hx hwx
    by_cases hxh : x = h
    · subst hxh; exact hw
    · unfold writable at hwx ⊢
      rwa [List.getElem?_set_ne (Ne.symm hxh)] at hwx
  · intro x kx h1 h2; simp at h2; omega
  · intro b hb hn
    exact hother b fun he => hn h k hl hk he.symm hw

theorem setRange_get {cs vs : List Value} {o : Nat} (h : o + vs.length ≤ cs.length) (i : Nat) :
    (setRange cs o vs)[i]? = if i < o then cs[i]? else if i < o + vs.length then vs[i - o]? else cs[i]? := by
  unfold setRange
  have hl : (cs.take o).length = o := by simp; omega
  by_cases h1 : i < o
  · rw [if_pos h1, List.append_assoc, List.getElem?_append_left (by omega), List.getElem?_take, if_pos h1]
  · rw [if_neg h1]
    by_cases h2 : i < o + vs.length
    · rw [if_pos h2, List.getElem?_append_left (by rw [List.length_append]; omega), List.getElem?_append_right (by omega), hl]
    · rw [if_neg h2, List.getElem?_append_right (by rw [List.length_append]; omega), List.getElem?_drop]
      congr 1
      rw [List.length_append]; omega

theorem set_setRange {cs : List Value} {o : Nat} {v : Value} (h : o < cs.length) : cs.set o v = setRange cs o [v] := by
  apply List.ext_getElem?
  intro i
  rw [setRange_get (by simp; omega), List.getElem?_set]
  by_cases h1 : o = i
  · subst h1; simp [h]
  · simp only [h1, if_false, List.length_singleton]
    by_cases h2 : i < o
    · simp [h2]
    · have : ¬ i < o + 1 := by omega
      simp [h2, this]

theorem storeCells_spec {μ : Mu} {σ : AMem} {w : World} (hR : R P μ σ w) {b o : Nat} {k : Blk} (hk : μ b = some k) {cs vs vs' : List Value} {T : TypeId} (hb : σ[b]? = some (.cells cs T true)) (hv : RVs μ vs vs')
    (hl : ∀ v ∈ vs, v.oneCell' = true) (ho : o + vs.length ≤ cs.length) :
    ∃ w', (storeCells ⟨k.b, k.o + o, none⟩ vs').run P w = .ok () w' ∧ R P μ (σ.set b (.cells (setRange cs o vs) T true)) w' ∧ Step μ σ w μ (σ.set b (.cells (setRange cs o vs) T true)) w' := by
  obtain ⟨c, T', fz, hx, h1, h2, h3, h4, h5, h6, h7⟩ := hR.obj _ _ _ hb hk
  have hfz := h5 rfl
  subst hfz
  have hvl := hv.length
  have hrun := run_storeCells_at P k.b (k.o + o) T' vs' 0 c w hx (by omega) (hv.leaf hl)
  have hbl : b < σ.length := (List.getElem?_eq_some_iff.1 hb).1
  have hal : alive σ b := ⟨_, hb, by simp⟩
  have hwr : writable σ b := by unfold writable; rw [hb]; trivial
  have e : (c.toList.take (k.o + o + 0) ++ vs' ++ c.toList.drop (k.o + o + 0 + vs'.length)).toArray.toList = setRange c.toList (k.o + o) vs' := by simp [setRange]
  refine ⟨_, hrun, ?_, ?_⟩
  · refine hR.upd hk hal hwr (size_setRow _ _ _) (fun b' hb' => setRow_other w k.b b' _ hb') ?_
    have hc : (w.setRow k.b (c.toList.take (k.o + o + 0) ++ vs' ++ c.toList.drop (k.o + o + 0 + vs'.length)).toArray).heap[k.b]? = some (.cells _ T' (0, 0)) := setRow_heap w k.b c _ T' _ hx
    rw [hc]
    have hlen : (setRange c.toList (k.o + o) vs').length = c.size := by rw [setRange_length (by simp; omega)]; simp
    refine ⟨_, T', (0, 0), rfl, by rw [setRange_length ho]; exact h1, h2, ?_, h4, fun _ => rfl, leaf_setRange h6 hl, ?_⟩
    · rw [← Array.length_toList, e, hlen]; exact h3
    · rw [e]
      refine RVs.of_get ?_ ?_
      · rw [setRange_length ho, List.length_take, List.length_drop, hlen]; omega
      · intro i x x' hx1 hx2
        have hi : i < k.n := by
          have := (List.getElem?_eq_some_iff.1 hx1).1
          rw [setRange_length ho] at this; omega
        rw [List.getElem?_take, if_pos hi, List.getElem?_drop, setRange_get (by simp; omega)] at hx2
        rw [setRange_get ho] at hx1
        by_cases c1 : i < o
        · rw [if_pos c1] at hx1
          rw [if_pos (by omega)] at hx2
          obtain ⟨y, hy, hr⟩ := h7.get i x hx1
          rw [List.getElem?_take, if_pos hi, List.getElem?_drop] at hy
          rw [hy] at hx2; cases hx2; exact hr
        · rw [if_neg c1] at hx1
          rw [if_neg (by omega)] at hx2
          by_cases c2 : i < o + vs.length
          · rw [if_pos c2] at hx1
            rw [if_pos (by omega)] at hx2
            obtain ⟨y, hy, hr⟩ := hv.get _ x hx1
            rw [show k.o + i - (k.o + o) = i - o by omega, hy] at hx2
            cases hx2; exact hr
          · rw [if_neg c2] at hx1
            rw [if_neg (by omega)] at hx2
            obtain ⟨y, hy, hr⟩ := h7.get i x hx1
            rw [List.getElem?_take, if_pos hi, List.getElem?_drop] at hy
            rw [hy] at hx2; cases hx2; exact hr
  · exact Step.upd hk hbl hwr (size_setRow _ _ _) rfl rfl rfl (fun b' hb' => setRow_other w k.b b' _ hb')

theorem run_setObj {w : World} {b : Nat} {entries : Array MapEntry} {clock : Nat} (h : w.heap[b]? = some (.map entries clock)) (x : Obj) : (setObj b x).run P w = .ok () { w with heap := w.heap.setIfInBounds b x } := by
  simp only [setObj, Sem.run, h]

theorem setObj_spec {μ : Mu} {σ : AMem} {w : World} (hR : R P μ σ w) {h : Nat} {k : Blk} (hk : μ h = some k) {es es2 : List (Int × Value)} (hb : σ[h]? = some (.map es)) {entries2 : Array MapEntry} (clock : Nat) (hre : REs μ es2 entries2.toList) :
    R P μ (σ.set h (.map es2)) { w with heap := w.heap.setIfInBounds k.b (.map entries2 clock) } ∧ Step μ σ w μ (σ.set h (.map es2)) { w with heap := w.heap.setIfInBounds k.b (.map entries2 clock) } := by
  have hbl : h < σ.length := (List.getElem?_eq_some_iff.1 hb).1
  have hal : alive σ h := ⟨_, hb, by simp⟩
  have hwr : writable σ h := by unfold writable; rw [hb]; trivial
  have hother : ∀ b, b ≠ k.b → (w.heap.setIfInBounds k.b (.map entries2 clock))[b]? = w.heap[b]? := fun b hb => by
    rw [Array.getElem?_setIfInBounds, if_neg (Ne.symm hb)]
  refine ⟨hR.upd hk hal hwr (by simp) hother ?_, Step.upd hk hbl hwr (by simp) rfl rfl rfl hother⟩
  have : (w.heap.setIfInBounds k.b (.map entries2 clock))[k.b]? = some (.map entries2 clock) := by
    rw [Array.getElem?_setIfInBounds, if_pos rfl, if_pos (hR.lt _ _ hk)]
  show ObjR P μ _ k (w.heap.setIfInBounds k.b (.map entries2 clock))[k.b]?
  rw [this]
  exact ⟨entries2, clock, rfl, hre⟩

theorem REs.push {μ : Mu} {k : Int} {v v' : Value} (hv : RV μ v v') (born : Nat) : ∀ {es : List (Int × Value)} {es' : List MapEntry}, REs μ es es' → REs μ (es ++ [(k, v)]) (es' ++ [{ key := .int .i64 k, val := v', born := born }])
  | _, _, .nil => .cons rfl hv .nil
  | _, _, .cons hk h t => .cons hk h (REs.push hv born t)

theorem REs.set {μ : Mu} {k : Int} {v v' : Value} (hv : RV μ v v') : ∀ {es : List (Int × Value)} {es' : List MapEntry} (j : Nat), REs μ es es' → REs μ (es.set j (k, v)) (es'.modify j fun e => { e with key := .int .i64 k, val := v' })
  | _, _, _, .nil => by simpa using REs.nil
  | _, _, 0, .cons hk h t => .cons rfl hv t
  | _, _, j + 1, .cons hk h t => .cons hk h (REs.set hv j t)

theorem REs.erase {μ : Mu} : ∀ {es : List (Int × Value)} {es' : List MapEntry} (j : Nat), REs μ es es' → REs μ (es.eraseIdx j) (es'.eraseIdx j)
  | _, _, _, .nil => by simpa using REs.nil
  | _, _, 0, .cons hk h t => t
  | _, _, j + 1, .cons hk h t => .cons hk h (REs.erase j t)

theorem REs.length {μ : Mu} : ∀ {es : List (Int × Value)} {es' : List MapEntry}, REs μ es es' → es.length = es'.length
  | _, _, .nil => rfl
  | _, _, .cons _ _ t => by simp [REs.length t]

/-- An operation that may write. -/
def LoOk (P : Program) (o : Oper) (e : Operand → Option Value) (σ : AMem) (v : Value) (σ' : AMem) : Prop :=
  ∀ (μ : Mu) (w : World) (f : Operand → Value), R P μ σ w → Fresh μ σ.length σ'.length → (∀ x u, e x = some u → RV μ u (f x)) → MemOk P μ σ w v σ' ((execOp f o).run P w)

theorem run_execOp_unit {o : Oper} {f : Operand → Value} {w w' : World} {s : Sem Unit} (h : execOp f o = (do s; pure .skip : Sem Next)) (hs : s.run P w = .ok () w') :
    (execOp f o).run P w = .ok .skip w' := by
  rw [h]; simp [hs]

theorem rv_undef {μ : Mu} : RV μ undef undef := .tuple .nil

theorem st1_spec {σ σ' : AMem} {b o : Nat} {v : Value} (h : st1 σ b o v = some σ') : ∃ cs T, σ[b]? = some (.cells cs T true) ∧ o + [v].length ≤ cs.length ∧ σ' = σ.set b (.cells (setRange cs o [v]) T true) := by
  unfold st1 at h
  split at h
  · rename_i cs T hb
    split at h
    · rename_i ho
      cases h
      exact ⟨cs, T, hb, by simp; omega, by rw [set_setRange ho]⟩
    · cases h
  · cases h

theorem stN_spec {σ σ' : AMem} {b o : Nat} {vs : List Value} (h : stN σ b o vs = some σ') : ∃ cs T, σ[b]? = some (.cells cs T true) ∧ o + vs.length ≤ cs.length ∧ σ' = σ.set b (.cells (setRange cs o vs) T true) := by
  unfold stN at h
  split at h
  · rename_i cs T hb
    split at h
    · rename_i ho
      cases h
      exact ⟨cs, T, hb, ho, rfl⟩
    · cases h
  · cases h

theorem stN_intro {σ : AMem} {b o : Nat} {cs vs : List Value} {T : TypeId} (hb : σ[b]? = some (.cells cs T true)) (h : o + vs.length ≤ cs.length) : stN σ b o vs = some (σ.set b (.cells (setRange cs o vs) T true)) := by
  simp only [stN, hb]
  rw [if_pos h]

theorem opx_store {T : TypeId} {x y : Operand} {call : CallF} {q : Bool} {ty : TypeId} {e : Operand → Option Value} {σ : AMem} {K : Value → AMem → Option ρ} {r : ρ} {o : Oper} (ho : o.op = .store T x y)
    (h : opx P call q (.store T x y) ty e σ K = some r) : ∃ v σ', K v σ' = some r ∧ σ.length ≤ σ'.length ∧ LoOk P o e σ v σ' := by
  simp only [opx, Option.bind_eq_some_iff] at h
  obtain ⟨v, hv, u, hu, h⟩ := h
  cases v with
  | pointer a0 =>
    simp only [Option.bind_eq_some_iff] at h
    obtain ⟨a, ha, h⟩ := h
    subst ha
    have main : ∀ (vs : List Value) (σ' : AMem), szOf P T = some u.cells.size → u.cells.toList = vs → isTup u = false → stN σ a.block a.off vs = some σ' → LoOk P o e σ undef σ' := by
      intro vs σ' hsz hvs ht hst μ w f hR hfr hf
      obtain ⟨cs, T', hb, hlen, rfl⟩ := stN_spec hst
      obtain ⟨k, hk, hfx⟩ := rv_ptr (hf x _ hv)
      obtain ⟨h1, h2, h3⟩ := agg_cells (hf y u hu) ht
      rw [hvs] at h1 h2
      obtain ⟨w', hrun, hR', hS⟩ := storeCells_spec hR hk hb h1 h2 hlen
      refine ⟨μ, undef, w', .inr ⟨?_, rfl⟩, rv_undef, hR', hS⟩
      refine run_execOp_unit (by simp only [execOp, ho] <;> rfl) ?_
      have hsz' : ¬ (f y).cells.size ≠ u.cells.size := by
        have := h1.length
        rw [← hvs] at this
        simp at this ⊢; omega
      simp only [hfx, Instr.storeAt, Instr.sureAddr, Sem.run_bind, Sem.run_pure, Result.andThen_ok, storeVar, run_sizeOf hsz]
      rw [if_neg hsz']
      exact hrun
    cases u with
    | agg vs =>
      simp only at h
      split at h
      · rename_i hsz
        simp only [Option.bind_eq_some_iff] at h
        obtain ⟨σ', hst, h⟩ := h
        refine ⟨_, σ', h, ?_, main vs.toList σ' hsz rfl rfl hst⟩
        obtain ⟨cs, T', hb, hlen, rfl⟩ := stN_spec hst
        simp
      · cases h
    | tuple vs => simp at h
    | _ =>
      simp only at h
      split at h
      · rename_i hsz
        simp only [Option.bind_eq_some_iff] at h
        obtain ⟨σ', hst, h⟩ := h
        obtain ⟨cs, T', hb, hlen, rfl⟩ := st1_spec hst
        exact ⟨_, _, h, by simp, main _ _ hsz rfl rfl (stN_intro hb hlen)⟩
      · cases h
  | _ => cases h

theorem opx_mapUpdate {T : TypeId} {m i y : Operand} {call : CallF} {q : Bool} {ty : TypeId} {e : Operand → Option Value} {σ : AMem} {K : Value → AMem → Option ρ} {r : ρ} {o : Oper} (ho : o.op = .mapUpdate T m i y)
    (h : opx P call q (.mapUpdate T m i y) ty e σ K = some r) : ∃ v σ', K v σ' = some r ∧ σ.length ≤ σ'.length ∧ LoOk P o e σ v σ' := by
  simp only [opx, Option.bind_eq_some_iff] at h
  obtain ⟨mv, hm, kv, hk, u, hu, h⟩ := h
  split at h
  rotate_left
  · cases h
  rename_i kt E rr k hT
  split at h
  rotate_left
  · cases h
  rename_i hkt
  simp only [Option.bind_eq_some_iff] at h
  obtain ⟨r', hr', es, hes, h⟩ := h
  subst hr'
  refine ⟨_, _, h, by simp, fun μ w f hR hfr hf => ?_⟩
  have hki := kt64_spec hkt
  obtain ⟨kb, hkb, hfm⟩ := rv_map (hf m _ hm)
  have hfi := rv_int (hf i _ hk)
  have hru := hf y u hu
  obtain ⟨entries, clock, hh, hre⟩ := map_of hR hes hkb
  have hb : σ[r']? = some (.map es) := by
    unfold ldMap at hes
    split at hes
    · cases hes; assumption
    · cases hes
  have hfind := findNow_spec (k := k) es entries.toList 0 hre
  have hck := checkKey_int (P := P) (k := .i64) (a := k) hki false 9999 w
  cases hg : mapGet es k with
  | none =>
    rw [hg] at hfind
    obtain ⟨h1, h2, h3⟩ := hfind
    have hre2 : REs μ (es ++ [(k, u)]) (entries.push { key := .int .i64 k, val := f y, born := clock }).toList := by
      rw [Array.toList_push]; exact hre.push hru clock
    obtain ⟨hR', hS⟩ := setObj_spec hR hkb hb (clock + 1) hre2
    rw [h2]
    refine ⟨μ, undef, _, .inr ⟨?_, rfl⟩, rv_undef, hR', hS⟩
    refine run_execOp_unit (by simp only [execOp, ho] <;> rfl) ?_
    simp only [hfm, hfi, Instr.mapUpdate, Sem.run_bind, run_underlying hT, Result.andThen_ok, run_getMap hh, hck, Instr.findKey, run_underlying hki, h1, Sem.run_pure, run_setObj hh]
  | some u0 =>
    rw [hg] at hfind
    obtain ⟨j, e', h1, h2, h3, h4, h5, h6, h7⟩ := hfind
    rw [Nat.zero_add] at h1
    have hre2 : REs μ (es.set j (k, u)) (entries.modify j fun e => { e with key := .int .i64 k, val := f y }).toList := by
      rw [Array.toList_modify]; exact hre.set hru j
    obtain ⟨hR', hS⟩ := setObj_spec hR hkb hb clock hre2
    rw [h5]
    refine ⟨μ, undef, _, .inr ⟨?_, rfl⟩, rv_undef, hR', hS⟩
    refine run_execOp_unit (by simp only [execOp, ho] <;> rfl) ?_
    have he : entries[j]? = some e' := by simpa using h2
    have hks : (Instr.keyThatStays (.int .i64 k) (.int .i64 k)).run P w = .ok (.int .i64 k) w := by
      simp [Instr.keyThatStays, Instr.sameBits]
    simp only [hfm, hfi, Instr.mapUpdate, Sem.run_bind, run_underlying hT, Result.andThen_ok, run_getMap hh, hck, Instr.findKey, run_underlying hki, h1, Sem.run_pure, he, Option.map_some, Option.getD_some, h3, hks, run_setObj hh]

end Go.AX
