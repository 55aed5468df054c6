/-
  Small things that more than one law uses.
-/
import Derived.Test.YtlaplcglpnlieaaCX
set_option linter.unusedVariables false
set_option linter.unusedSimpArgs false
namespace Go.Proofs.Ytlaplcglpnlieaa
open Go Go.AX
noncomputable local instance qCG : Quiet := fullQuiet
local instance nCG : Kn := ⟨true⟩
variable {σ : AMem} {i : HIds} {m : HM}

def boRow (l : List Bool) : List Value := l.map Value.bool
theorem ldB_at {σ : AMem} {b o : Nat} {l : List Bool} {T : TypeId} (h : σ[b]? = some (.cells (boRow l) T true)) (ho : o < l.length) : ldB σ b o = some (l.getD o false) := by
  simp [ldB, ld1, h, boRow, toB, List.getElem?_eq_getElem ho]
theorem stB_at {σ : AMem} {b o : Nat} {l : List Bool} {T : TypeId} (v : Bool) (h : σ[b]? = some (.cells (boRow l) T true)) (ho : o < l.length) : st1 σ b o (.bool v) = some (σ.set b (.cells (boRow (l.set o v)) T true)) := by
  have : o < (boRow l).length := by simpa [boRow] using ho
  simp only [st1, h, this, if_true]
  simp [boRow, List.map_set]
theorem getD_setB (l : List Bool) (a b : Nat) (v : Bool) (ha : a < l.length) : (l.set a v).getD b false = if b = a then v else l.getD b false := by
  simp only [List.getD_eq_getElem?_getD, List.getElem?_set]
  by_cases h : a = b
  · subst h; simp [ha]
  · rw [if_neg h, if_neg (fun e => h e.symm)]

theorem mem_starts {lo n j : Nat} : j ∈ starts m lo n ↔ lo ≤ j ∧ j < lo + n ∧ tget 1 m.stw j = 1 := by
  unfold starts
  rw [List.mem_filter, List.mem_range'_1]
  simp [and_assoc]
theorem mem_all {j : Nat} : j ∈ starts m 0 (32 * m.bls.length) ↔ Start m j := by
  rw [mem_starts]; unfold Start; simp
theorem starts_nodup (lo n : Nat) : (starts m lo n).Nodup := (List.nodup_range' (step := 1) (by decide)).filter _

theorem addrs_getD (l : List Nat) {x : Nat} (hx : x < l.length) : (addrs l).getD x 0 = ((2 * l[x] : Nat) : Int) := by
  simp [addrs, List.getElem?_eq_getElem hx]

theorem Inv.same_id (h : Inv m) {j j' : Nat} (h1 : Start m j) (h2 : Start m j') (he : m.wds.getD (2 * j) 0 = m.wds.getD (2 * j') 0) : j = j' := by
  have a := (h.idn j h1).2.2
  have b := (h.idn j' h2).2.2
  rw [he, b] at a
  have := Option.some.inj a
  omega

theorem rep_bool (n : Nat) : rep n [Value.bool false] = boRow (List.replicate n false) := by
  simp only [rep, boRow, List.map_replicate]
  induction n with
  | zero => rfl
  | succ n ih => rw [List.replicate_succ, List.flatten_cons, ih, List.replicate_succ]; rfl

theorem placeR_cases (m : HM) (a r d c : Int) : ((placeR m a r d c).2.1 = 0 → (placeR m a r d c).1 = m.births + 1 ∧ (placeR m a r d c).2.2.births = m.births + 1) ∧ ((placeR m a r d c).2.1 ≠ 0 → (placeR m a r d c).1 = 0 ∧ (placeR m a r d c).2.2 = m) := by
  unfold placeR
  split
  · split
    · exact ⟨fun _ => ⟨rfl, rfl⟩, fun h => absurd rfl h⟩
    · rename_i hc
      exact ⟨fun h => absurd h hc, fun _ => ⟨rfl, rfl⟩⟩
  · exact ⟨fun h => absurd (show (2 : Int) = 0 from h) (by decide), fun _ => ⟨rfl, rfl⟩⟩

end Go.Proofs.Ytlaplcglpnlieaa
