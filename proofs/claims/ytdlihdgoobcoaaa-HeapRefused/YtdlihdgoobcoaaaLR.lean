/-
  HeapRefused: what the law's function comes to.
-/
import Derived.Test.YtdlihdgoobcoaaaCY
set_option linter.unusedVariables false
set_option linter.unusedSimpArgs false
namespace Go.Proofs.Ytdlihdgoobcoaaa
open Go Go.AX
noncomputable local instance : Quiet := fullQuiet
variable {σ : AMem} {i : HIds} {m : HM}

theorem stateL_length (hI : Inv m) (hl : m.bls.length ≤ 64) (hw : m.wds.length = 64 * m.bls.length) : (stateL m).length ≤ 800000 := by
  have h1 := objL_length hI (starts m 0 (32 * m.bls.length)) (fun j hj => mem_all.1 hj)
  have h2 := starts_len m 0 (32 * m.bls.length)
  unfold stateL
  simp only [List.length_append, blsL_length, wfL_length, List.length_cons, List.length_nil]
  omega

theorem HeapRefused_to (k : Nat) (hk : 1000000 ≤ k) (b : Int) (p : Option Addr) (c2 : Nat) (l : List ActV) (hok : ∀ x ∈ l, x.ok) (x : ActV) (hx : x.ok) (σ : AMem) (hA : ActsAt σ p l) (hp : l ≠ [] → ∀ a, p = some a → a.block < σ.length) :
    ∃ σ', law02_HeapRefused (k + 15) b (p, l.length, c2) x.k x.a x.b x.c x.r x.d x.s σ = some (.bool true, σ') := by
  rw [law02_HeapRefused_is, d_law02_HeapRefused]
  simp only [allocK]
  obtain ⟨μ, hμ⟩ : ∃ μ, σ ++ [AObj.cells [Value.int .i64 x.k, .int .i64 x.a, .int .i64 x.b, .int .i64 x.c, .int .i64 x.r, .int .i64 x.d, .int .i64 x.s] 56 true] = μ := ⟨_, rfl⟩
  have hA0 : ActsAt μ p l := by
    rcases hA with hA | ⟨ab, T, rw', rfl, hA⟩
    · exact .inl hA
    · exact .inr ⟨ab, T, rw', rfl, by rw [← hμ, List.getElem?_append_left (getElem?_lt hA)]; exact hA⟩
  have hml : μ.length = σ.length + 1 := by rw [← hμ]; simp
  have hp0 : l ≠ [] → ∀ a, p = some a → a.block < μ.length := fun hl a e => by have := hp hl a e; omega
  have hbox : μ[σ.length]? = some (AObj.cells [Value.int .i64 x.k, .int .i64 x.a, .int .i64 x.b, .int .i64 x.c, .int .i64 x.r, .int .i64 x.d, .int .i64 x.s] 56 true) := by rw [← hμ]; simp
  rw [hμ]
  rcases Made_to k (by omega) b p c2 l hok hA0 hp0 with ⟨_, hM⟩ | ⟨σ1, i, m, _, hM, h1, hI, hI2, k1, hid, hb60, hb12, _⟩
  · simp only [hM, Option.bind_some, toP, eqA_ptrs ⟨0, 0, none⟩, cond_true, alive_to, toB_bool]
    exact ⟨_, rfl⟩
  have hbrt := hI.brt
  have ht := h1.nt
  have hw := h1.wl
  have hnb : σ.length ∉ i.l := fun hm => by have := hid _ hm; omega
  have hx1 := (k1.same _ (getElem?_lt hbox) hnb).trans hbox
  have l0 : ldI .i64 σ1 σ.length (0 + 0) = some x.k := by simp [ldI, ld1, hx1, toI]
  simp only [hM, Option.bind_some, toP, eqA_ptrs, cond_false, l0]
  by_cases h12 : x.k = 12
  · simp only [h12, BEq.rfl, cond_true, alive_to, Option.bind_some, toB_bool]
    exact ⟨_, rfl⟩
  have q12 : (x.k == 12) = false := by simpa using h12
  obtain ⟨τ2, s2, e2, i2⟩ := state_to (k + 5) (by omega) h1 hI
  have e2' : d_law02_state (k + 14) (hptr i) σ1 = _ := e2
  obtain ⟨σ2, hσ2⟩ : ∃ σ2, σ1 ++ τ2 = σ2 := ⟨_, rfl⟩
  rw [hσ2] at e2' i2
  have h2 : HeapAt σ2 i m := hσ2 ▸ h1.app τ2
  have hx2 : σ2[σ.length]? = some (AObj.cells [Value.int .i64 x.k, .int .i64 x.a, .int .i64 x.b, .int .i64 x.c, .int .i64 x.r, .int .i64 x.d, .int .i64 x.s] 56 true) := by
    rw [← hσ2, List.getElem?_append_left (getElem?_lt hx1)]; exact hx1
  have d0 : ldI .i64 σ2 σ.length 0 = some x.k := by simp [ldI, ld1, hx2, toI]
  have d1 : ldI .i64 σ2 σ.length 1 = some x.a := by simp [ldI, ld1, hx2, toI]
  have d2 : ldI .i64 σ2 σ.length 2 = some x.b := by simp [ldI, ld1, hx2, toI]
  have d3 : ldI .i64 σ2 σ.length 3 = some x.c := by simp [ldI, ld1, hx2, toI]
  have d4 : ldI .i64 σ2 σ.length 4 = some x.r := by simp [ldI, ld1, hx2, toI]
  have d5 : ldI .i64 σ2 σ.length 5 = some x.d := by simp [ldI, ld1, hx2, toI]
  have d6 : ldI .i64 σ2 σ.length 6 = some x.s := by simp [ldI, ld1, hx2, toI]
  obtain ⟨σ3, e3, h3, k3⟩ := do_goes (k + 1) (by omega) h2 hI (by omega) x hx
  have e3' : d_law02_do (k + 14) (hptr i) x.k x.a x.b x.c x.r x.d x.s σ2 = _ := e3
  have hK := doR_keep hI hI2 h2.sh x
  simp only [q12, cond_false, Option.bind_some, e2', toS, Nat.zero_add, Nat.reduceAdd, d0, d1, d2, d3, d4, d5, d6, e3', toI_int]
  by_cases hc : (doR m x).1 = 0
  · simp only [hc, BEq.rfl, cond_true, Option.bind_some, alive_to, toB_bool]
    exact ⟨_, rfl⟩
  have qc : ((doR m x).1 == 0) = false := by simpa using hc
  rw [hK.err hc] at h3
  obtain ⟨τ4, s4, e4, i4⟩ := state_to (k + 5) (by omega) h3 hI
  have e4' : d_law02_state (k + 14) (hptr i) σ3 = _ := e4
  have hl := stateL_length hI ht hw
  have i2' : IntsAt σ1.length σ3 s2 (stateL m) := by
    rcases i2 with h | ⟨q, g1, g2, g3, g4⟩
    · exact .inl h
    · refine .inr ⟨q, g1, g2, g3, (k3.same q (getElem?_lt g4) fun hm => ?_).trans g4⟩
      have := h1.lt _ hm
      omega
  have e5 := ints_to (k + 12) i4 (i2'.app τ4) (by omega) (by omega)
  have e5' : d_law02_ints (k + 14) s4 s2 (σ3 ++ τ4) = _ := e5
  simp only [qc, cond_false, e4', Option.bind_some, toS, e5', decide_true, toB_bool, cond_true, alive_to]
  exact ⟨_, rfl⟩

end Go.Proofs.Ytdlihdgoobcoaaa
