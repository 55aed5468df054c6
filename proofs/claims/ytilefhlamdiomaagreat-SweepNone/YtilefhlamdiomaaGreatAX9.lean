/-
  append, copy, clear, delete.
-/
import Derived.Test.YtilefhlamdiomaaGreatAX8
set_option linter.unusedSimpArgs false
set_option linter.unusedVariables false
set_option linter.unusedSectionVars false
namespace Go.AX
open Go
variable {ρ : Type} {P : Program} [Quiet]

theorem room_next {need old bytes : Nat} (h : old < need) (hr : roomOk need bytes) : ¬ Builtin.nextslicecap need old * bytes > 2 ^ 48 := by
  have h1 := nextslicecap_le h
  have h2 : Builtin.nextslicecap need old * bytes ≤ 2 * need * bytes := Nat.mul_le_mul_right _ h1
  have h3 : 2 * need * bytes = 2 * (need * bytes) := Nat.mul_assoc _ _ _
  have := hr.1
  omega

theorem run_typeInfo_of {E : TypeId} {by_ : Nat} (h : bytesOf P E = some by_) (w : World) : ∃ i, (typeInfo E).run P w = .ok i w ∧ i.bytes = by_ := by
  unfold bytesOf at h
  simp only [Option.map_eq_some_iff] at h
  obtain ⟨i, hi, hb⟩ := h
  exact ⟨i, by simp [typeInfo, hi], hb⟩

section
variable {t t' ty E E' : TypeId} {s by_ n l c : Nat} {base : Option Addr} {x : Value} {new old : Array Value} {w w' : World}

theorem run_append_fit (ht : P.underlying t = some (.slice E)) (ht' : P.underlying t' = some (.slice E')) (hs : szOf P E = some s) (hlen : (Builtin.lenOf x).run P w = .ok n w)
    (hfit : l + n ≤ c) (hnew : (Builtin.firstCells s n x).run P w = .ok new w) (hst : (match base with | some a => storeCells (a.add (l * s)) new.toList | none => pure ()).run P w = .ok () w') :
    (Builtin.append_ #[t, t'] ty #[.slice base l c, x]).run P w = .ok (.slice base (l + n) c) w' := by
  cases base with
  | none =>
    simp only [Sem.run_pure] at hst
    cases hst
    simp [Builtin.append_, run_underlying ht, run_underlying ht', run_sizeOf hs, hlen, hfit, hnew]
  | some a =>
    simp only at hst
    simp [Builtin.append_, run_underlying ht, run_underlying ht', run_sizeOf hs, hlen, hfit, hnew, hst]

theorem run_append_grow (ht : P.underlying t = some (.slice E)) (ht' : P.underlying t' = some (.slice E')) (hs : szOf P E = some s) (hby : bytesOf P E = some by_) (hlen : (Builtin.lenOf x).run P w = .ok n w)
    (hfit : ¬ l + n ≤ c) (hroom : roomOk (l + n) by_) (hb0 : 0 < by_) (z : Value) (hz : zerosOf P E = some z)
    (hold : (Builtin.firstCells s l (.slice base l c)).run P w.drew = .ok old w.drew) (hnew : (Builtin.firstCells s n x).run P w.drew = .ok new w.drew) :
    ∃ cap rest, l + n ≤ cap ∧ rest = Builtin.zeroCells z.cells (cap - (l + n)) ∧
      (Builtin.append_ #[t, t'] ty #[.slice base l c, x]).run P w = .ok (.slice (some ⟨w.heap.size, 0, none⟩) (l + n) cap) (w.drew.alloc (.cells (old ++ new ++ rest) E)) := by
  obtain ⟨hz1, hz2⟩ := run_zeroOf hz w.drew
  have hcut : l + n ≤ grownCap w (l + n) c E := by unfold grownCap; simp only [Question.cut]; omega
  refine ⟨_, _, hcut, rfl, ?_⟩
  unfold bytesOf at hby
  simp only [Option.map_eq_some_iff] at hby
  obtain ⟨i, hi, hib⟩ := hby
  have hrm := room_next (old := c) (by omega) hroom
  rw [← hib] at hrm hb0
  have hb0' : i.bytes ≠ 0 := by omega
  have h48' : ¬ (281474976710656 < Builtin.nextslicecap (l + n) c * i.bytes) := by omega
  have hty : ∀ w, (typeInfo E).run P w = .ok i w := fun w => by simp [typeInfo, hi]
  simp [Builtin.append_, run_underlying ht, run_underlying ht', run_sizeOf hs, hlen, hfit, hty, hb0', h48', Question.forced, hold, hnew, hz1, newRow, grownCap]
end

theorem run_loadCells_zero (a : Addr) (w : World) : (loadCells a 0).run P w = .ok #[] w := rfl

theorem firstCells_of {μ : Mu} {σ : AMem} {w : World} (hR : R P μ σ w) {x : Option Addr} {l c m : Nat} {v' : Value} (hv : RV μ (.slice x l c) v') {s : Nat} {new : List Value} (hm : m ≤ l) (h : firstA σ s x m = some new) :
    ∃ new', RVs μ new new' ∧ (Builtin.firstCells s m v').run P w = .ok new'.toArray w ∧ (Builtin.lenOf v').run P w = .ok l w ∧ (∀ v ∈ new, v.oneCell' = true) ∧ (x ≠ none → new.length = m * s) := by
  unfold firstA at h
  cases hv with
  | sliceNil =>
    have hm0 : m = 0 := by omega
    subst hm0
    simp at h
    subst h
    exact ⟨[], .nil, rfl, rfl, by simp, by simp⟩
  | @sliceZ a z y hz =>
    have hm0 : m = 0 := by omega
    subst hm0
    simp only [Nat.zero_mul] at h
    obtain ⟨hlen, hld⟩ := ldN_ld1 h
    have : new = [] := List.eq_nil_of_length_eq_zero hlen
    subst this
    refine ⟨[], .nil, ?_, rfl, by simp, by simp⟩
    simp only [Builtin.firstCells, Nat.zero_mul]; rfl
  | @slice a k _ _ c' hk hsp hl hc hm' =>
    simp only at h
    obtain ⟨hlen, hld⟩ := ldN_ld1 h
    obtain ⟨vs', hr, hrun, hleaf⟩ := run_loadCells_of hR hk hlen hld
    refine ⟨vs', hr, ?_, rfl, hleaf, fun _ => hlen⟩
    simp only [Builtin.firstCells]
    exact hrun
  | @sliceEnd a k o' c' hk hsp hm' =>
    have hm0 : m = 0 := by omega
    subst hm0
    simp only [Nat.zero_mul] at h
    obtain ⟨hlen, hld⟩ := ldN_ld1 h
    have : new = [] := List.eq_nil_of_length_eq_zero hlen
    subst this
    refine ⟨[], .nil, ?_, rfl, by simp, by simp⟩
    simp only [Builtin.firstCells, Nat.zero_mul]; rfl

theorem setRange_nil (cs : List Value) (o : Nat) (h : o ≤ cs.length) : setRange cs o [] = cs := by simp [setRange]

theorem set_same {σ : AMem} {b : Nat} {o : AObj} (h : σ[b]? = some o) : σ.set b o = σ := by
  apply List.ext_getElem?
  intro i
  rw [List.getElem?_set]
  split
  · rename_i he; subst he
    obtain ⟨h1, h2⟩ := List.getElem?_eq_some_iff.1 h
    simp [h1, h2]
  · rfl

theorem writable_of {σ : AMem} {b : Nat} (h : writableB σ b = true) : writable σ b := by
  unfold writableB at h
  unfold writable
  split at h
  · rename_i hb; subst h; rw [hb]; trivial
  · rename_i hb; rw [hb]; trivial
  · cases h

theorem alive_writable {σ : AMem} {b : Nat} (h : writable σ b) : alive σ b := by
  unfold writable at h
  split at h
  · rename_i hb; exact ⟨_, hb, by simp⟩
  · rename_i hb; exact ⟨_, hb, by simp⟩
  · rename_i hb; exact ⟨_, hb, by simp⟩
  · cases h

/-- A slice that has outgrown its array, written in place: the old object is dead, a new one lies in the same block. -/
theorem R.regrow {μ : Mu} {σ : AMem} {w : World} (hR : R P μ σ w) (hf : μ σ.length = none) {b : Nat} {k : Blk} (hk : μ b = some k) {E : TypeId} {cs : List Value} (hb : σ[b]? = some (.cells cs E true)) {off l n c' s : Nat} (hs : k.s = s)
    {old new new' : List Value} (hold : ldN σ b off (l * s) = some old ∨ (old = [] ∧ l = 0)) (hnew : RVs μ new new') (hl : ∀ v ∈ new, v.oneCell' = true) (hnl : new.length = n * s) (hfit : l + n ≤ c') (hm : off + c' * s ≤ k.m) :
    ∃ w' μ', (storeCells ⟨k.b, k.o + off + l * s, none⟩ new').run P w = .ok () w' ∧ R P μ' (σ.set b .dead ++ [.cells (old ++ new) E true]) w' ∧ Step μ σ w μ' (σ.set b .dead ++ [.cells (old ++ new) E true]) w' ∧
      μ' σ.length = some ⟨k.b, k.o + off, s, (l + n) * s, c' * s⟩ := by
  obtain ⟨c, T', fz, hx, h1, h2, h3, h4, h5, h6, h7⟩ := hR.obj _ _ _ hb hk
  have hfz := h5 rfl
  subst hfz
  have hvl := hnew.length
  have hmul : (l + n) * s ≤ c' * s := Nat.mul_le_mul_right _ hfit
  have hadd : (l + n) * s = l * s + n * s := Nat.add_mul _ _ _
  have hrun := run_storeCells_at P k.b (k.o + off + l * s) T' new' 0 c w hx (by omega) (hnew.leaf hl)
  have hbl : b < σ.length := (List.getElem?_eq_some_iff.1 hb).1
  have hal : alive σ b := ⟨_, hb, by simp⟩
  have hwr : writable σ b := by unfold writable; rw [hb]; trivial
  have e : (c.toList.take (k.o + off + l * s + 0) ++ new' ++ c.toList.drop (k.o + off + l * s + 0 + new'.length)).toArray.toList = setRange c.toList (k.o + off + l * s) new' := by simp [setRange]
  have hlen : (setRange c.toList (k.o + off + l * s) new').length = c.size := by rw [setRange_length (by simp; omega)]; simp
  have hc : (w.setRow k.b (c.toList.take (k.o + off + l * s + 0) ++ new' ++ c.toList.drop (k.o + off + l * s + 0 + new'.length)).toArray).heap[k.b]? = some (.cells _ T' (0, 0)) := setRow_heap w k.b c _ T' _ hx
  have hother : ∀ b', b' ≠ k.b → (w.setRow k.b (c.toList.take (k.o + off + l * s + 0) ++ new' ++ c.toList.drop (k.o + off + l * s + 0 + new'.length)).toArray).heap[b']? = w.heap[b']? := fun b' hb' => setRow_other w k.b b' _ hb'
  generalize hw' : w.setRow k.b (c.toList.take (k.o + off + l * s + 0) ++ new' ++ c.toList.drop (k.o + off + l * s + 0 + new'.length)).toArray = w' at *
  have hsz : w'.heap.size = w.heap.size := by rw [← hw']; exact size_setRow _ _ _
  have ht : w'.tape = w.tape := by rw [← hw']; rfl
  have hos : w'.os = w.os := by rw [← hw']; rfl
  have hout : w'.output = w.output := by rw [← hw']; rfl
  have hle : μ.le (μ.put σ.length ⟨k.b, k.o + off, s, (l + n) * s, c' * s⟩) := Mu.le_put hf
  have hsl : (σ.set b .dead).length = σ.length := by simp
  refine ⟨w', μ.put σ.length ⟨k.b, k.o + off, s, (l + n) * s, c' * s⟩, hrun, ⟨?_, ?_, ?_⟩, ?_, Mu.put_same _ _ _⟩
  · intro x o kx hx' hkx
    by_cases hxl : x = σ.length
    · subst hxl
      rw [Mu.put_same] at hkx; cases hkx
      rw [List.getElem?_append_right (by omega), hsl, Nat.sub_self] at hx'
      simp only [List.getElem?_cons_zero, Option.some.injEq] at hx'
      subst hx'
      rw [hc]
      have hol : old.length = l * s := by
        rcases hold with h | ⟨rfl, rfl⟩
        · exact (ldN_ld1 h).1
        · simp
      refine ⟨_, T', (0, 0), rfl, by rw [List.length_append, hol, hnl, hadd], hmul, ?_, by rw [← hs]; exact h4, fun _ => rfl, ?_, ?_⟩
      · rw [← Array.length_toList, e, hlen]; simp only; omega
      · intro v hv
        rcases List.mem_append.1 hv with hv | hv
        · rcases hold with h | ⟨rfl, rfl⟩
          · obtain ⟨j, hj, hjv⟩ := List.getElem_of_mem hv
            have := (ldN_ld1 h).2 j v (by rw [List.getElem?_eq_getElem hj, hjv])
            obtain ⟨_, _, _, g⟩ := cell_of hR this hk
            exact g
          · simp at hv
        · exact hl v hv
      · rw [e]
        refine RVs.of_get ?_ ?_
        · rw [List.length_append, hol, hnl, List.length_take, List.length_drop, hlen]; simp only; omega
        · intro i x x' hx1 hx2
          simp only at hx2
          have hi : i < (l + n) * s := by
            have := (List.getElem?_eq_some_iff.1 hx1).1
            rw [List.length_append, hol, hnl] at this; omega
          rw [List.getElem?_take, if_pos hi, List.getElem?_drop, setRange_get (by simp; omega)] at hx2
          by_cases hil : i < l * s
          · rw [List.getElem?_append_left (by omega)] at hx1
            rw [if_pos (by omega)] at hx2
            rcases hold with h | ⟨rfl, rfl⟩
            · obtain ⟨y, hy, hr, _⟩ := cell_of hR ((ldN_ld1 h).2 i x hx1) hk
              simp only [World.cell?, hx] at hy
              have hy' : c.toList[k.o + (off + i)]? = some y := by simpa using hy
              rw [show k.o + off + i = k.o + (off + i) by omega, hy'] at hx2
              cases hx2
              exact hr.mono hle
            · simp at hx1
          · rw [List.getElem?_append_right (by omega), hol] at hx1
            rw [if_neg (by omega), if_pos (by omega), show k.o + off + i - (k.o + off + l * s) = i - l * s by omega] at hx2
            obtain ⟨y, hy, hr⟩ := hnew.get _ x hx1
            rw [hy] at hx2; cases hx2
            exact hr.mono hle
    · rw [Mu.put_other μ _ hxl] at hkx
      have hxlt : x < σ.length := by
        have := (List.getElem?_eq_some_iff.1 hx').1
        simp at this; omega
      rw [List.getElem?_append_left (by omega)] at hx'
      by_cases hxb : x = b
      · subst hxb
        rw [List.getElem?_set_self hbl] at hx'
        cases hx'; trivial
      · rw [List.getElem?_set_ne (Ne.symm hxb)] at hx'
        by_cases hd : o = .dead
        · subst hd; trivial
        · have hne : kx.b ≠ k.b := fun he => hxb (hR.inj x b kx k hkx hk ⟨o, hx', hd⟩ hal (.inr hwr) he)
          rw [hother _ hne]
          exact (hR.obj x o kx hx' hkx).mono hle
  · intro x kx hkx
    by_cases hxl : x = σ.length
    · subst hxl; rw [Mu.put_same] at hkx; cases hkx; rw [hsz]; exact hR.lt b k hk
    · rw [Mu.put_other μ _ hxl] at hkx; rw [hsz]; exact hR.lt x kx hkx
  · have hal' : ∀ x, x ≠ σ.length → alive (σ.set b .dead ++ [.cells (old ++ new) E true]) x → alive σ x ∧ x ≠ b := by
      intro x hxl ⟨o, ho, hd⟩
      have hxlt : x < σ.length := by
        have := (List.getElem?_eq_some_iff.1 ho).1
        simp at this; omega
      rw [List.getElem?_append_left (by omega)] at ho
      by_cases hxb : x = b
      · subst hxb; rw [List.getElem?_set_self hbl] at ho; cases ho; exact absurd rfl hd
      · rw [List.getElem?_set_ne (Ne.symm hxb)] at ho; exact ⟨⟨o, ho, hd⟩, hxb⟩
    have hwal : ∀ x, x ≠ σ.length → x ≠ b → writable (σ.set b .dead ++ [.cells (old ++ new) E true]) x → writable σ x := by
      intro x hxl hxb hwx
      have hwx := writable_append1 (by simpa using hxl) hwx
      unfold writable at hwx ⊢
      rwa [List.getElem?_set_ne (Ne.symm hxb)] at hwx
    intro x y kx ky hx' hy' hax hay hww hxy
    by_cases hxl : x = σ.length <;> by_cases hyl : y = σ.length
    · omega
    · subst hxl; rw [Mu.put_same] at hx'; cases hx'
      rw [Mu.put_other μ _ hyl] at hy'
      obtain ⟨g1, g2⟩ := hal' y hyl hay
      exact absurd (hR.inj y b ky k hy' hk g1 hal (.inr hwr) hxy.symm) g2
    · subst hyl; rw [Mu.put_same] at hy'; cases hy'
      rw [Mu.put_other μ _ hxl] at hx'
      obtain ⟨g1, g2⟩ := hal' x hxl hax
      exact absurd (hR.inj x b kx k hx' hk g1 hal (.inr hwr) hxy) g2
    · rw [Mu.put_other μ _ hxl] at hx'
      rw [Mu.put_other μ _ hyl] at hy'
      exact hR.inj x y kx ky hx' hy' (hal' x hxl hax).1 (hal' y hyl hay).1 (hww.imp (hwal x hxl (hal' x hxl hax).2) (hwal y hyl (hal' y hyl hay).2)) hxy
  · refine ⟨by simp, ?_, ?_, ?_, by omega, ht, hos, hout, ?_⟩
    · intro x hx'; exact Mu.put_other μ _ (by simp at hx'; omega)
    · intro x hx' hwx
      by_cases hxb : x = b
      · subst hxb; exact hwr
      · unfold writable at hwx ⊢
        rwa [List.getElem?_append_left (by omega), List.getElem?_set_ne (Ne.symm hxb)] at hwx
    · intro x kx hx1 hx2 hkx
      have : x = σ.length := by simp at hx2; omega
      subst this
      rw [Mu.put_same] at hkx; cases hkx
      exact .inr ⟨b, k, hbl, hk, rfl, hwr⟩
    · intro b' hb' hn
      exact hother b' fun he => hn b k hbl hk he.symm hwr

end Go.AX
