/-
  Laws of the words in which the printed functions are written.
-/
import Derived.Test.YtilefhlamdiomaaGreatAXF
set_option linter.unusedVariables false
set_option linter.unusedSimpArgs false
namespace Go.AX
open Go
variable {ρ : Type}

theorem ld1_new (σ : AMem) (vs : List Value) (T : TypeId) (rw : Bool) (o : Nat) : ld1 (σ ++ [.cells vs T rw]) σ.length o = vs[o]? := by simp [ld1]
theorem ld1_app {σ : AMem} {b : Nat} (τ : AMem) (o : Nat) (h : b < σ.length) : ld1 (σ ++ τ) b o = ld1 σ b o := by simp [ld1, List.getElem?_append_left h]
theorem ldI_new (k : IntKind) (σ : AMem) (vs : List Value) (T : TypeId) (rw : Bool) (o : Nat) : ldI k (σ ++ [.cells vs T rw]) σ.length o = (vs[o]?).bind (toI k) := by simp [ldI, ld1_new]
theorem ldI_app (k : IntKind) {σ : AMem} {b : Nat} (τ : AMem) (o : Nat) (h : b < σ.length) : ldI k (σ ++ τ) b o = ldI k σ b o := by simp [ldI, ld1_app τ o h]
theorem ldI_newapp (k : IntKind) (σ τ : AMem) (vs : List Value) (T : TypeId) (rw : Bool) (o : Nat) : ldI k ((σ ++ [.cells vs T rw]) ++ τ) σ.length o = (vs[o]?).bind (toI k) := by
  rw [ldI_app k τ o (by simp), ldI_new]
theorem ldI_mid (k : IntKind) (σ τ : AMem) (vs : List Value) (T : TypeId) (rw : Bool) (o : Nat) : ldI k (σ ++ .cells vs T rw :: τ) σ.length o = (vs[o]?).bind (toI k) := by simp [ldI, ld1]
theorem toI_int (k : IntKind) (n : Int) : toI k (.int k n) = some n := by simp [toI]
theorem toB_bool (b : Bool) : toB (.bool b) = some b := rfl

theorem pair_bif {α β : Type} (c : Bool) (x y : α) (s : β) : (bif c then some (x, s) else some (y, s)) = some (bif c then x else y, s) := by cases c <;> rfl
theorem pair_bif_bool {β : Type} (c : Bool) (x y : Bool) (s : β) : (bif c then some (Value.bool x, s) else some (Value.bool y, s)) = some (Value.bool (bif c then x else y), s) := by cases c <;> rfl

theorem quietly_full (σ τ : AMem) (m : Option ρ) : @quietly fullQuiet ρ σ (σ ++ τ) m = m := by
  have h : @Quiet.q fullQuiet σ (σ ++ τ) = true := by
    unfold fullQuiet
    simp only [decide_eq_true_eq]
    exact ⟨τ, rfl⟩
  unfold quietly; rw [h]; rfl

/-- A call that comes to a value, and adds to the memory alone. -/
def Adds (m : Option (Value × AMem)) (σ : AMem) (v : Value) : Prop := ∃ τ, m = some (v, σ ++ τ)
noncomputable def Adds.mem {m : Option (Value × AMem)} {σ : AMem} {v : Value} (h : Adds m σ v) : AMem := Classical.choose h
theorem Adds.eq {m : Option (Value × AMem)} {σ : AMem} {v : Value} (h : Adds m σ v) : m = some (v, σ ++ h.mem) := Classical.choose_spec h

def inI (n : Int) : Prop := -9223372036854775808 ≤ n ∧ n < 9223372036854775808
theorem w64_in {n : Int} (h : inI n) : w64 n = n := IntWalk.i64_in n (by unfold inI at h; omega)

end Go.AX
