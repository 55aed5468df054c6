/-
  A heap that nobody made: what its methods come to.
-/
import Derived.Test.YtdlihdgoobcoaaaGreatFD
import Derived.Test.YtdlihdgoobcoaaaGreatAXM
set_option linter.unusedVariables false
set_option linter.unusedSimpArgs false
namespace Go.Proofs.YtdlihdgoobcoaaaGreat
open Go Go.AX
noncomputable local instance : Quiet := fullQuiet

/-- nil, or a heap of zeros. -/
def NoH (σ : AMem) (p : Option Addr) : Prop :=
  p = none ∨ ∃ h T rw, p = some ⟨h, 0, none⟩ ∧ σ[h]? = some (.cells [.slice none 0 0, .slice none 0 0, .pointer none, .pointer none, .map none, .map none, .int .i64 0] T rw)

theorem NoH.app {σ : AMem} {p : Option Addr} (h : NoH σ p) (τ : AMem) : NoH (σ ++ τ) p := by
  rcases h with h | ⟨b, T, rw, h1, h2⟩
  · exact .inl h
  · refine .inr ⟨b, T, rw, h1, ?_⟩
    rw [List.getElem?_append_left (List.getElem?_eq_some_iff.1 h2).1]; exact h2

theorem made_no {σ : AMem} {p : Option Addr} (h : NoH σ p) (k : Nat) : d_heap_Heap_made (k + 1) p σ = some (.bool false, σ) := by
  rcases h with rfl | ⟨b, T, rw, rfl, h2⟩
  · rw [d_heap_Heap_made]
    have e : eqA P 25 (.pointer none) (.pointer none) = some true := by kernel_rfl
    rw [e]; rfl
  · rw [d_heap_Heap_made]
    have e : eqA P 25 (.pointer (some ⟨b, 0, none⟩)) (.pointer none) = some false := by kernel_rfl
    rw [e]
    simp [ldS, ld1, h2, toS]

theorem five_ne : ((5 : Int) != 0) = true := rfl
theorem four_ne : ((4 : Int) != 0) = true := rfl
theorem neg_ge : decide ((-1 : Int) ≥ 0) = false := rfl
theorem toS_nil : toS (.slice none 0 0) = some (none, 0, 0) := rfl
theorem space_any (k : Nat) (n : Int) (σ : AMem) : ∃ b, d_heap_space (k + 1) n σ = some (.bool b, σ) := by
  rw [d_heap_space]
  simp only [pair_bif, Option.bind_some]
  exact ⟨_, rfl⟩
theorem stN_new (σ : AMem) (cs vs : List Value) (T : TypeId) (h : vs.length = cs.length) : stN (σ ++ [.cells cs T true]) σ.length 0 vs = some (σ ++ [.cells vs T true]) := by
  simp [stN, setRange, h]
theorem ldN_new (σ : AMem) (vs : List Value) (T : TypeId) (rw : Bool) (n : Nat) (h : vs.length = n) : ldN (σ ++ [.cells vs T rw]) σ.length 0 n = some vs := by
  simp [ldN, ← h]

theorem heap_Heap_claim_no {σ : AMem} {p : Option Addr} (h : NoH σ p) (k : Nat) (x1 : Int) (x2 : Int) (x3_0 : Int) (x3_1 : Int) (x4_0 : Int) (x4_1 : Int) : Adds (d_heap_Heap_claim (k + 2) p x1 x2 x3_0 x3_1 x4_0 x4_1 σ) σ (.int .i64 5) := by
  unfold Adds
  rw [d_heap_Heap_claim]
  simp only [allocK, List.append_assoc, made_no (h.app _), made_no h, Option.bind_some, toB_bool, toI_int, Bool.not_false, Bool.not_true, cond_true, cond_false, five_ne, four_ne, r_ii_eq, neg_ge, toS_nil]
  exact ⟨_, rfl⟩

theorem heap_Heap_Claim_no {σ : AMem} {p : Option Addr} (h : NoH σ p) (k : Nat) (x1 : Int) (x2 : Int) : Adds (d_heap_Heap_Claim (k + 3) p x1 x2 σ) σ (.int .i64 5) := by
  unfold Adds
  rw [d_heap_Heap_Claim]
  rw [(heap_Heap_claim_no h _ _ _ _ _ _ _).eq]
  simp only [allocK, List.append_assoc, made_no (h.app _), made_no h, Option.bind_some, toB_bool, toI_int, Bool.not_false, Bool.not_true, cond_true, cond_false, five_ne, four_ne, r_ii_eq, neg_ge, toS_nil]
  exact ⟨_, rfl⟩

theorem heap_Heap_ClaimLarge_no {σ : AMem} {p : Option Addr} (h : NoH σ p) (k : Nat) (x1 : Int) (x2 : Int) (x3 : Int) : Adds (d_heap_Heap_ClaimLarge (k + 3) p x1 x2 x3 σ) σ (.int .i64 5) := by
  unfold Adds
  rw [d_heap_Heap_ClaimLarge]
  rw [(heap_Heap_claim_no h _ _ _ _ _ _ _).eq]
  simp only [allocK, List.append_assoc, made_no (h.app _), made_no h, Option.bind_some, toB_bool, toI_int, Bool.not_false, Bool.not_true, cond_true, cond_false, five_ne, four_ne, r_ii_eq, neg_ge, toS_nil]
  exact ⟨_, rfl⟩

theorem heap_Heap_held_no {σ : AMem} {p : Option Addr} (h : NoH σ p) (k : Nat) (x1 : Int) (x2 : Bool) : d_heap_Heap_held (k + 2) p x1 x2 σ = some ((.int .i64 5), σ) := by
  rw [d_heap_Heap_held]
  simp only [made_no (h.app _), made_no h, Option.bind_some, toB_bool, toI_int, Bool.not_false, Bool.not_true, cond_true, cond_false, five_ne, four_ne, r_ii_eq, neg_ge, toS_nil]

theorem heap_Heap_object_no {σ : AMem} {p : Option Addr} (h : NoH σ p) (k : Nat) (x1 : Int) : d_heap_Heap_object (k + 2) p x1 σ = some ((.int .i64 5), σ) := by
  rw [d_heap_Heap_object]
  simp only [made_no (h.app _), made_no h, Option.bind_some, toB_bool, toI_int, Bool.not_false, Bool.not_true, cond_true, cond_false, five_ne, four_ne, r_ii_eq, neg_ge, toS_nil]

theorem heap_Heap_Release_no {σ : AMem} {p : Option Addr} (h : NoH σ p) (k : Nat) (x1 : Int) : d_heap_Heap_Release (k + 3) p x1 σ = some ((.int .i64 5), σ) := by
  rw [d_heap_Heap_Release]
  simp only [heap_Heap_held_no (h.app _), heap_Heap_held_no h, made_no (h.app _), made_no h, Option.bind_some, toB_bool, toI_int, Bool.not_false, Bool.not_true, cond_true, cond_false, five_ne, four_ne, r_ii_eq, neg_ge, toS_nil]

theorem heap_Heap_Retag_no {σ : AMem} {p : Option Addr} (h : NoH σ p) (k : Nat) (x1 : Int) (x2 : Int) : d_heap_Heap_Retag (k + 3) p x1 x2 σ = some ((.int .i64 5), σ) := by
  rw [d_heap_Heap_Retag]
  obtain ⟨b, hb⟩ := space_any (k + 1) x2 σ
  rw [hb]
  simp only [heap_Heap_held_no (h.app _), heap_Heap_held_no h, made_no (h.app _), made_no h, Option.bind_some, toB_bool, toI_int, Bool.not_false, Bool.not_true, cond_true, cond_false, five_ne, four_ne, r_ii_eq, neg_ge, toS_nil]

theorem heap_Heap_Place_no {σ : AMem} {p : Option Addr} (h : NoH σ p) (k : Nat) (x1 : Int) (x2_0 : Int) (x2_1 : Int) (x2_2 : Int) : Adds (d_heap_Heap_Place (k + 2) p x1 x2_0 x2_1 x2_2 σ) σ (.tuple #[.int .i64 0, .int .i64 5]) := by
  unfold Adds
  rw [d_heap_Heap_Place]
  simp only [allocK, List.append_assoc, made_no (h.app _), made_no h, Option.bind_some, toB_bool, toI_int, Bool.not_false, Bool.not_true, cond_true, cond_false, five_ne, four_ne, r_ii_eq, neg_ge, toS_nil]
  exact ⟨_, rfl⟩

theorem heap_Heap_Kill_no {σ : AMem} {p : Option Addr} (h : NoH σ p) (k : Nat) (x1 : Int) : d_heap_Heap_Kill (k + 3) p x1 σ = some ((.int .i64 5), σ) := by
  rw [d_heap_Heap_Kill]
  simp only [heap_Heap_object_no (h.app _), heap_Heap_object_no h, made_no (h.app _), made_no h, Option.bind_some, toB_bool, toI_int, Bool.not_false, Bool.not_true, cond_true, cond_false, five_ne, four_ne, r_ii_eq, neg_ge, toS_nil]

theorem heap_Heap_Move_no {σ : AMem} {p : Option Addr} (h : NoH σ p) (k : Nat) (x1 : Int) (x2 : Int) : d_heap_Heap_Move (k + 3) p x1 x2 σ = some ((.int .i64 5), σ) := by
  rw [d_heap_Heap_Move]
  simp only [heap_Heap_object_no (h.app _), heap_Heap_object_no h, made_no (h.app _), made_no h, Option.bind_some, toB_bool, toI_int, Bool.not_false, Bool.not_true, cond_true, cond_false, five_ne, four_ne, r_ii_eq, neg_ge, toS_nil]

theorem heap_Heap_field_no {σ : AMem} {p : Option Addr} (h : NoH σ p) (k : Nat) (x1 : Int) (x2 : Int) (x3 : Bool) : d_heap_Heap_field (k + 3) p x1 x2 x3 σ = some ((.tuple #[.int .i64 0, .int .i64 5]), σ) := by
  rw [d_heap_Heap_field]
  simp only [heap_Heap_object_no (h.app _), heap_Heap_object_no h, made_no (h.app _), made_no h, Option.bind_some, toB_bool, toI_int, Bool.not_false, Bool.not_true, cond_true, cond_false, five_ne, four_ne, r_ii_eq, neg_ge, toS_nil]

theorem heap_Heap_SetRef_no {σ : AMem} {p : Option Addr} (h : NoH σ p) (k : Nat) (x1 : Int) (x2 : Int) (x3 : Int) : d_heap_Heap_SetRef (k + 4) p x1 x2 x3 σ = some ((.int .i64 5), σ) := by
  rw [d_heap_Heap_SetRef]
  simp only [heap_Heap_field_no (h.app _), heap_Heap_field_no h, made_no (h.app _), made_no h, Option.bind_some, toB_bool, toI_int, Bool.not_false, Bool.not_true, cond_true, cond_false, five_ne, four_ne, r_ii_eq, neg_ge, toS_nil]

theorem heap_Heap_SetData_no {σ : AMem} {p : Option Addr} (h : NoH σ p) (k : Nat) (x1 : Int) (x2 : Int) (x3 : Int) : d_heap_Heap_SetData (k + 4) p x1 x2 x3 σ = some ((.int .i64 5), σ) := by
  rw [d_heap_Heap_SetData]
  simp only [heap_Heap_field_no (h.app _), heap_Heap_field_no h, made_no (h.app _), made_no h, Option.bind_some, toB_bool, toI_int, Bool.not_false, Bool.not_true, cond_true, cond_false, five_ne, four_ne, r_ii_eq, neg_ge, toS_nil]

theorem heap_Heap_Word_no {σ : AMem} {p : Option Addr} (h : NoH σ p) (k : Nat) (x1 : Int) : d_heap_Heap_Word (k + 2) p x1 σ = some ((.tuple #[.int .i64 0, .int .i64 5]), σ) := by
  rw [d_heap_Heap_Word]
  simp only [made_no (h.app _), made_no h, Option.bind_some, toB_bool, toI_int, Bool.not_false, Bool.not_true, cond_true, cond_false, five_ne, four_ne, r_ii_eq, neg_ge, toS_nil]

theorem heap_Heap_Find_no {σ : AMem} {p : Option Addr} (h : NoH σ p) (k : Nat) (x1 : Int) : d_heap_Heap_Find (k + 2) p x1 σ = some ((.tuple #[.int .i64 0, .int .i64 5]), σ) := by
  rw [d_heap_Heap_Find]
  simp only [made_no (h.app _), made_no h, Option.bind_some, toB_bool, toI_int, Bool.not_false, Bool.not_true, cond_true, cond_false, five_ne, four_ne, r_ii_eq, neg_ge, toS_nil]

theorem heap_Heap_Poke_no {σ : AMem} {p : Option Addr} (h : NoH σ p) (k : Nat) (x1 : Int) (x2 : Int) : d_heap_Heap_Poke (k + 3) p x1 x2 σ = some ((.int .i64 5), σ) := by
  rw [d_heap_Heap_Poke]
  simp only [heap_Heap_Word_no (h.app _), heap_Heap_Word_no h, heap_Heap_Find_no (h.app _), heap_Heap_Find_no h, made_no (h.app _), made_no h, Option.bind_some, toB_bool, toI_int, Bool.not_false, Bool.not_true, cond_true, cond_false, five_ne, four_ne, r_ii_eq, neg_ge, toS_nil]

theorem heap_Heap_pin_no {σ : AMem} {p : Option Addr} (h : NoH σ p) (k : Nat) (x1 : Int) (x2 : Int) : d_heap_Heap_pin (k + 3) p x1 x2 σ = some ((.int .i64 5), σ) := by
  rw [d_heap_Heap_pin]
  simp only [heap_Heap_object_no (h.app _), heap_Heap_object_no h, made_no (h.app _), made_no h, Option.bind_some, toB_bool, toI_int, Bool.not_false, Bool.not_true, cond_true, cond_false, five_ne, four_ne, r_ii_eq, neg_ge, toS_nil]

theorem heap_Heap_Pin_no {σ : AMem} {p : Option Addr} (h : NoH σ p) (k : Nat) (x1 : Int) : d_heap_Heap_Pin (k + 4) p x1 σ = some ((.int .i64 5), σ) := by
  rw [d_heap_Heap_Pin]
  simp only [heap_Heap_pin_no (h.app _), heap_Heap_pin_no h, made_no (h.app _), made_no h, Option.bind_some, toB_bool, toI_int, Bool.not_false, Bool.not_true, cond_true, cond_false, five_ne, four_ne, r_ii_eq, neg_ge, toS_nil]

theorem heap_Heap_Unpin_no {σ : AMem} {p : Option Addr} (h : NoH σ p) (k : Nat) (x1 : Int) : d_heap_Heap_Unpin (k + 4) p x1 σ = some ((.int .i64 5), σ) := by
  rw [d_heap_Heap_Unpin]
  simp only [heap_Heap_pin_no (h.app _), heap_Heap_pin_no h, made_no (h.app _), made_no h, Option.bind_some, toB_bool, toI_int, Bool.not_false, Bool.not_true, cond_true, cond_false, five_ne, four_ne, r_ii_eq, neg_ge, toS_nil]

theorem heap_Heap_Forget_no {σ : AMem} {p : Option Addr} (h : NoH σ p) (k : Nat)  : d_heap_Heap_Forget (k + 2) p  σ = some ((.int .i64 0), σ) := by
  rw [d_heap_Heap_Forget]
  simp only [made_no (h.app _), made_no h, Option.bind_some, toB_bool, toI_int, Bool.not_false, Bool.not_true, cond_true, cond_false, five_ne, four_ne, r_ii_eq, neg_ge, toS_nil]

theorem heap_Heap_Has_no {σ : AMem} {p : Option Addr} (h : NoH σ p) (k : Nat) (x1 : Int) : d_heap_Heap_Has (k + 2) p x1 σ = some ((.bool false), σ) := by
  rw [d_heap_Heap_Has]
  simp only [made_no (h.app _), made_no h, Option.bind_some, toB_bool, toI_int, Bool.not_false, Bool.not_true, cond_true, cond_false, five_ne, four_ne, r_ii_eq, neg_ge, toS_nil]

theorem heap_Heap_Pinned_no {σ : AMem} {p : Option Addr} (h : NoH σ p) (k : Nat) (x1 : Int) : d_heap_Heap_Pinned (k + 3) p x1 σ = some ((.bool false), σ) := by
  rw [d_heap_Heap_Pinned]
  simp only [heap_Heap_Has_no (h.app _), heap_Heap_Has_no h, made_no (h.app _), made_no h, Option.bind_some, toB_bool, toI_int, Bool.not_false, Bool.not_true, cond_true, cond_false, five_ne, four_ne, r_ii_eq, neg_ge, toS_nil]

theorem heap_Heap_Forward_no {σ : AMem} {p : Option Addr} (h : NoH σ p) (k : Nat) (x1 : Int) : d_heap_Heap_Forward (k + 2) p x1 σ = some ((.tuple #[.int .i64 0, .int .i64 5]), σ) := by
  rw [d_heap_Heap_Forward]
  simp only [made_no (h.app _), made_no h, Option.bind_some, toB_bool, toI_int, Bool.not_false, Bool.not_true, cond_true, cond_false, five_ne, four_ne, r_ii_eq, neg_ge, toS_nil]

theorem heap_Heap_Ident_no {σ : AMem} {p : Option Addr} (h : NoH σ p) (k : Nat) (x1 : Int) : d_heap_Heap_Ident (k + 3) p x1 σ = some ((.tuple #[.int .i64 0, .int .i64 5]), σ) := by
  rw [d_heap_Heap_Ident]
  simp only [heap_Heap_object_no (h.app _), heap_Heap_object_no h, made_no (h.app _), made_no h, Option.bind_some, toB_bool, toI_int, Bool.not_false, Bool.not_true, cond_true, cond_false, five_ne, four_ne, r_ii_eq, neg_ge, toS_nil]

theorem heap_Heap_Shape_no {σ : AMem} {p : Option Addr} (h : NoH σ p) (k : Nat) (x1 : Int) : Adds (d_heap_Heap_Shape (k + 3) p x1 σ) σ (.tuple #[.agg #[.int .i64 0, .int .i64 0, .int .i64 0], .int .i64 5]) := by
  unfold Adds
  rw [d_heap_Heap_Shape]
  simp only [allocK, List.append_assoc, heap_Heap_object_no (h.app _), heap_Heap_object_no h, made_no (h.app _), made_no h, Option.bind_some, toB_bool, toI_int, Bool.not_false, Bool.not_true, cond_true, cond_false, five_ne, four_ne, r_ii_eq, neg_ge, toS_nil]
  rw [stN_new _ _ _ _ rfl]
  simp only [Option.bind_some]
  rw [ldN_new _ _ _ _ 3 rfl]
  exact ⟨_, rfl⟩

theorem heap_Heap_Ref_no {σ : AMem} {p : Option Addr} (h : NoH σ p) (k : Nat) (x1 : Int) (x2 : Int) : d_heap_Heap_Ref (k + 4) p x1 x2 σ = some ((.tuple #[.int .i64 0, .int .i64 5]), σ) := by
  rw [d_heap_Heap_Ref]
  simp only [heap_Heap_field_no (h.app _), heap_Heap_field_no h, made_no (h.app _), made_no h, Option.bind_some, toB_bool, toI_int, Bool.not_false, Bool.not_true, cond_true, cond_false, five_ne, four_ne, r_ii_eq, neg_ge, toS_nil]

theorem heap_Heap_Data_no {σ : AMem} {p : Option Addr} (h : NoH σ p) (k : Nat) (x1 : Int) (x2 : Int) : d_heap_Heap_Data (k + 4) p x1 x2 σ = some ((.tuple #[.int .i64 0, .int .i64 5]), σ) := by
  rw [d_heap_Heap_Data]
  simp only [heap_Heap_field_no (h.app _), heap_Heap_field_no h, made_no (h.app _), made_no h, Option.bind_some, toB_bool, toI_int, Bool.not_false, Bool.not_true, cond_true, cond_false, five_ne, four_ne, r_ii_eq, neg_ge, toS_nil]

theorem heap_Heap_Blocks_no {σ : AMem} {p : Option Addr} (h : NoH σ p) (k : Nat)  : d_heap_Heap_Blocks (k + 2) p  σ = some ((.int .i64 0), σ) := by
  rw [d_heap_Heap_Blocks]
  simp only [made_no (h.app _), made_no h, Option.bind_some, toB_bool, toI_int, Bool.not_false, Bool.not_true, cond_true, cond_false, five_ne, four_ne, r_ii_eq, neg_ge, toS_nil]

theorem heap_Heap_State_no {σ : AMem} {p : Option Addr} (h : NoH σ p) (k : Nat) (x1 : Int) : d_heap_Heap_State (k + 3) p x1 σ = some ((.int .i64 (-1)), σ) := by
  rw [d_heap_Heap_State]
  simp only [heap_Heap_Blocks_no (h.app _), heap_Heap_Blocks_no h, made_no (h.app _), made_no h, Option.bind_some, toB_bool, toI_int, Bool.not_false, Bool.not_true, cond_true, cond_false, five_ne, four_ne, r_ii_eq, neg_ge, toS_nil]
  by_cases hx : x1 < 0
  · simp only [decide_eq_true hx, cond_true, Option.bind_some]
  · simp only [decide_eq_false hx, decide_eq_true (Int.not_lt.1 hx), cond_true, cond_false, Option.bind_some, ge_iff_le]

theorem heap_Heap_Space_no {σ : AMem} {p : Option Addr} (h : NoH σ p) (k : Nat) (x1 : Int) : d_heap_Heap_Space (k + 3) p x1 σ = some ((.int .i64 (-1)), σ) := by
  rw [d_heap_Heap_Space]
  simp only [heap_Heap_Blocks_no (h.app _), heap_Heap_Blocks_no h, made_no (h.app _), made_no h, Option.bind_some, toB_bool, toI_int, Bool.not_false, Bool.not_true, cond_true, cond_false, five_ne, four_ne, r_ii_eq, neg_ge, toS_nil]
  by_cases hx : x1 < 0
  · simp only [decide_eq_true hx, cond_true, Option.bind_some]
  · simp only [decide_eq_false hx, decide_eq_true (Int.not_lt.1 hx), cond_true, cond_false, Option.bind_some, ge_iff_le]

theorem heap_Heap_there_no {σ : AMem} {p : Option Addr} (h : NoH σ p) (k : Nat) (x1 : Int) : d_heap_Heap_there (k + 2) p x1 σ = some ((.bool false), σ) := by
  rw [d_heap_Heap_there]
  simp only [made_no (h.app _), made_no h, Option.bind_some, toB_bool, toI_int, Bool.not_false, Bool.not_true, cond_true, cond_false, five_ne, four_ne, r_ii_eq, neg_ge, toS_nil]

theorem heap_Heap_used_no {σ : AMem} {p : Option Addr} (h : NoH σ p) (k : Nat) (x1 : Int) : d_heap_Heap_used (k + 3) p x1 σ = some ((.bool false), σ) := by
  rw [d_heap_Heap_used]
  simp only [heap_Heap_there_no (h.app _), heap_Heap_there_no h, made_no (h.app _), made_no h, Option.bind_some, toB_bool, toI_int, Bool.not_false, Bool.not_true, cond_true, cond_false, five_ne, four_ne, r_ii_eq, neg_ge, toS_nil]

theorem heap_Heap_Objects_no {σ : AMem} {p : Option Addr} (h : NoH σ p) (k : Nat) (x1 : Int) : d_heap_Heap_Objects (k + 2) p x1 σ = some ((.slice none 0 0), σ) := by
  rw [d_heap_Heap_Objects]
  simp only [made_no (h.app _), made_no h, Option.bind_some, toB_bool, toI_int, Bool.not_false, Bool.not_true, cond_true, cond_false, five_ne, four_ne, r_ii_eq, neg_ge, toS_nil]

theorem heap_Heap_All_no {σ : AMem} {p : Option Addr} (h : NoH σ p) (k : Nat)  : d_heap_Heap_All (k + 2) p  σ = some ((.slice none 0 0), σ) := by
  rw [d_heap_Heap_All]
  simp only [made_no (h.app _), made_no h, Option.bind_some, toB_bool, toI_int, Bool.not_false, Bool.not_true, cond_true, cond_false, five_ne, four_ne, r_ii_eq, neg_ge, toS_nil]

theorem heap_Heap_Gaps_no {σ : AMem} {p : Option Addr} (h : NoH σ p) (k : Nat) (x1 : Int) : d_heap_Heap_Gaps (k + 4) p x1 σ = some ((.slice none 0 0), σ) := by
  rw [d_heap_Heap_Gaps]
  simp only [heap_Heap_used_no (h.app _), heap_Heap_used_no h, heap_Heap_Objects_no (h.app _), heap_Heap_Objects_no h, made_no (h.app _), made_no h, Option.bind_some, toB_bool, toI_int, Bool.not_false, Bool.not_true, cond_true, cond_false, five_ne, four_ne, r_ii_eq, neg_ge, toS_nil]

theorem heap_Heap_Lines_no {σ : AMem} {p : Option Addr} (h : NoH σ p) (k : Nat) (x1 : Int) : d_heap_Heap_Lines (k + 4) p x1 σ = some ((.slice none 0 0), σ) := by
  rw [d_heap_Heap_Lines]
  simp only [heap_Heap_used_no (h.app _), heap_Heap_used_no h, heap_Heap_Objects_no (h.app _), heap_Heap_Objects_no h, made_no (h.app _), made_no h, Option.bind_some, toB_bool, toI_int, Bool.not_false, Bool.not_true, cond_true, cond_false, five_ne, four_ne, r_ii_eq, neg_ge, toS_nil]

theorem heap_Heap_Births_no {σ : AMem} {p : Option Addr} (h : NoH σ p) (k : Nat)  : d_heap_Heap_Births (k + 2) p  σ = some ((.int .i64 0), σ) := by
  rw [d_heap_Heap_Births]
  simp only [made_no (h.app _), made_no h, Option.bind_some, toB_bool, toI_int, Bool.not_false, Bool.not_true, cond_true, cond_false, five_ne, four_ne, r_ii_eq, neg_ge, toS_nil]

theorem heap_Heap_Used_no {σ : AMem} {p : Option Addr} (h : NoH σ p) (k : Nat)  : d_heap_Heap_Used (k + 3) p  σ = some ((.int .i64 0), σ) := by
  rw [d_heap_Heap_Used]
  simp only [heap_Heap_All_no (h.app _), heap_Heap_All_no h, made_no (h.app _), made_no h, Option.bind_some, toB_bool, toI_int, Bool.not_false, Bool.not_true, cond_true, cond_false, five_ne, four_ne, r_ii_eq, neg_ge, toS_nil]
  rw [d_heap_Heap_Used_l0]
  rfl

theorem heap_Heap_Clone_no {σ : AMem} {p : Option Addr} (h : NoH σ p) (k : Nat)  : d_heap_Heap_Clone (k + 2) p  σ = some ((.pointer none), σ) := by
  rw [d_heap_Heap_Clone]
  simp only [made_no (h.app _), made_no h, Option.bind_some, toB_bool, toI_int, Bool.not_false, Bool.not_true, cond_true, cond_false, five_ne, four_ne, r_ii_eq, neg_ge, toS_nil]

theorem ref02_Heap_Made_no {σ : AMem} (k : Nat)  : d_ref02_Heap_Made (k + 1) none  σ = some ((.bool false), σ) := by
  rw [d_ref02_Heap_Made]
  kernel_rfl

theorem ref02_Heap_lacks_no {σ : AMem} (k : Nat) (x1 : Int) : d_ref02_Heap_lacks (k + 2) none x1 σ = some ((.int .i64 5), σ) := by
  rw [d_ref02_Heap_lacks]
  simp only [ref02_Heap_Made_no, Option.bind_some, toB_bool, toI_int, Bool.not_false, Bool.not_true, cond_true, cond_false, five_ne, four_ne, r_ii_eq, neg_ge, toS_nil]

theorem ref02_Heap_Index_no {σ : AMem} (k : Nat) (x1 : Int) : d_ref02_Heap_Index (k + 2) none x1 σ = some ((.int .i64 (-1)), σ) := by
  rw [d_ref02_Heap_Index]
  simp only [ref02_Heap_Made_no, Option.bind_some, toB_bool, toI_int, Bool.not_false, Bool.not_true, cond_true, cond_false, five_ne, four_ne, r_ii_eq, neg_ge, toS_nil]

theorem ref02_Heap_Claim_no {σ : AMem} (k : Nat) (x1 : Int) (x2 : Int) : d_ref02_Heap_Claim (k + 2) none x1 x2 σ = some ((.int .i64 5), σ) := by
  rw [d_ref02_Heap_Claim]
  simp only [ref02_Heap_Made_no, Option.bind_some, toB_bool, toI_int, Bool.not_false, Bool.not_true, cond_true, cond_false, five_ne, four_ne, r_ii_eq, neg_ge, toS_nil]

theorem ref02_Heap_ClaimLarge_no {σ : AMem} (k : Nat) (x1 : Int) (x2 : Int) (x3 : Int) : d_ref02_Heap_ClaimLarge (k + 2) none x1 x2 x3 σ = some ((.int .i64 5), σ) := by
  rw [d_ref02_Heap_ClaimLarge]
  simp only [ref02_Heap_Made_no, Option.bind_some, toB_bool, toI_int, Bool.not_false, Bool.not_true, cond_true, cond_false, five_ne, four_ne, r_ii_eq, neg_ge, toS_nil]

theorem ref02_Heap_Release_no {σ : AMem} (k : Nat) (x1 : Int) : d_ref02_Heap_Release (k + 2) none x1 σ = some ((.int .i64 5), σ) := by
  rw [d_ref02_Heap_Release]
  simp only [ref02_Heap_Made_no, Option.bind_some, toB_bool, toI_int, Bool.not_false, Bool.not_true, cond_true, cond_false, five_ne, four_ne, r_ii_eq, neg_ge, toS_nil]

theorem ref02_Heap_Retag_no {σ : AMem} (k : Nat) (x1 : Int) (x2 : Int) : d_ref02_Heap_Retag (k + 2) none x1 x2 σ = some ((.int .i64 5), σ) := by
  rw [d_ref02_Heap_Retag]
  simp only [ref02_Heap_Made_no, Option.bind_some, toB_bool, toI_int, Bool.not_false, Bool.not_true, cond_true, cond_false, five_ne, four_ne, r_ii_eq, neg_ge, toS_nil]

theorem ref02_Heap_Place_no {σ : AMem} (k : Nat) (x1 : Int) (x2_0 : Int) (x2_1 : Int) (x2_2 : Int) : Adds (d_ref02_Heap_Place (k + 2) none x1 x2_0 x2_1 x2_2 σ) σ (.tuple #[.int .i64 0, .int .i64 5]) := by
  unfold Adds
  rw [d_ref02_Heap_Place]
  simp only [allocK, List.append_assoc, ref02_Heap_Made_no, Option.bind_some, toB_bool, toI_int, Bool.not_false, Bool.not_true, cond_true, cond_false, five_ne, four_ne, r_ii_eq, neg_ge, toS_nil]
  exact ⟨_, rfl⟩

theorem ref02_Heap_Kill_no {σ : AMem} (k : Nat) (x1 : Int) : d_ref02_Heap_Kill (k + 3) none x1 σ = some ((.int .i64 5), σ) := by
  rw [d_ref02_Heap_Kill]
  simp only [ref02_Heap_lacks_no, ref02_Heap_Index_no, Option.bind_some, toB_bool, toI_int, Bool.not_false, Bool.not_true, cond_true, cond_false, five_ne, four_ne, r_ii_eq, neg_ge, toS_nil]

theorem ref02_Heap_Move_no {σ : AMem} (k : Nat) (x1 : Int) (x2 : Int) : d_ref02_Heap_Move (k + 3) none x1 x2 σ = some ((.int .i64 5), σ) := by
  rw [d_ref02_Heap_Move]
  simp only [ref02_Heap_lacks_no, ref02_Heap_Index_no, Option.bind_some, toB_bool, toI_int, Bool.not_false, Bool.not_true, cond_true, cond_false, five_ne, four_ne, r_ii_eq, neg_ge, toS_nil]

theorem ref02_Heap_SetRef_no {σ : AMem} (k : Nat) (x1 : Int) (x2 : Int) (x3 : Int) : d_ref02_Heap_SetRef (k + 3) none x1 x2 x3 σ = some ((.int .i64 5), σ) := by
  rw [d_ref02_Heap_SetRef]
  simp only [ref02_Heap_lacks_no, ref02_Heap_Index_no, Option.bind_some, toB_bool, toI_int, Bool.not_false, Bool.not_true, cond_true, cond_false, five_ne, four_ne, r_ii_eq, neg_ge, toS_nil]

theorem ref02_Heap_SetData_no {σ : AMem} (k : Nat) (x1 : Int) (x2 : Int) (x3 : Int) : d_ref02_Heap_SetData (k + 3) none x1 x2 x3 σ = some ((.int .i64 5), σ) := by
  rw [d_ref02_Heap_SetData]
  simp only [ref02_Heap_lacks_no, ref02_Heap_Index_no, Option.bind_some, toB_bool, toI_int, Bool.not_false, Bool.not_true, cond_true, cond_false, five_ne, four_ne, r_ii_eq, neg_ge, toS_nil]

theorem ref02_Heap_Poke_no {σ : AMem} (k : Nat) (x1 : Int) (x2 : Int) : d_ref02_Heap_Poke (k + 3) none x1 x2 σ = some ((.int .i64 5), σ) := by
  rw [d_ref02_Heap_Poke]
  simp only [ref02_Heap_Made_no, ref02_Heap_Index_no, Option.bind_some, toB_bool, toI_int, Bool.not_false, Bool.not_true, cond_true, cond_false, five_ne, four_ne, r_ii_eq, neg_ge, toS_nil]

theorem ref02_Heap_pin_no {σ : AMem} (k : Nat) (x1 : Int) (x2 : Bool) : d_ref02_Heap_pin (k + 3) none x1 x2 σ = some ((.int .i64 5), σ) := by
  rw [d_ref02_Heap_pin]
  simp only [ref02_Heap_lacks_no, ref02_Heap_Index_no, Option.bind_some, toB_bool, toI_int, Bool.not_false, Bool.not_true, cond_true, cond_false, five_ne, four_ne, r_ii_eq, neg_ge, toS_nil]

theorem ref02_Heap_Pin_no {σ : AMem} (k : Nat) (x1 : Int) : d_ref02_Heap_Pin (k + 4) none x1 σ = some ((.int .i64 5), σ) := by
  rw [d_ref02_Heap_Pin]
  simp only [ref02_Heap_pin_no, Option.bind_some, toB_bool, toI_int, Bool.not_false, Bool.not_true, cond_true, cond_false, five_ne, four_ne, r_ii_eq, neg_ge, toS_nil]

theorem ref02_Heap_Unpin_no {σ : AMem} (k : Nat) (x1 : Int) : d_ref02_Heap_Unpin (k + 4) none x1 σ = some ((.int .i64 5), σ) := by
  rw [d_ref02_Heap_Unpin]
  simp only [ref02_Heap_pin_no, Option.bind_some, toB_bool, toI_int, Bool.not_false, Bool.not_true, cond_true, cond_false, five_ne, four_ne, r_ii_eq, neg_ge, toS_nil]

theorem ref02_Heap_Forget_no {σ : AMem} (k : Nat)  : d_ref02_Heap_Forget (k + 2) none  σ = some ((.int .i64 0), σ) := by
  rw [d_ref02_Heap_Forget]
  simp only [ref02_Heap_Made_no, Option.bind_some, toB_bool, toI_int, Bool.not_false, Bool.not_true, cond_true, cond_false, five_ne, four_ne, r_ii_eq, neg_ge, toS_nil]

theorem ref02_Heap_Word_no {σ : AMem} (k : Nat) (x1 : Int) : d_ref02_Heap_Word (k + 3) none x1 σ = some ((.tuple #[.int .i64 0, .int .i64 5]), σ) := by
  rw [d_ref02_Heap_Word]
  simp only [ref02_Heap_Made_no, ref02_Heap_Index_no, Option.bind_some, toB_bool, toI_int, Bool.not_false, Bool.not_true, cond_true, cond_false, five_ne, four_ne, r_ii_eq, neg_ge, toS_nil]

theorem ref02_Heap_Has_no {σ : AMem} (k : Nat) (x1 : Int) : d_ref02_Heap_Has (k + 3) none x1 σ = some ((.bool false), σ) := by
  rw [d_ref02_Heap_Has]
  simp only [ref02_Heap_Index_no, Option.bind_some, toB_bool, toI_int, Bool.not_false, Bool.not_true, cond_true, cond_false, five_ne, four_ne, r_ii_eq, neg_ge, toS_nil]

theorem ref02_Heap_Pinned_no {σ : AMem} (k : Nat) (x1 : Int) : d_ref02_Heap_Pinned (k + 3) none x1 σ = some ((.bool false), σ) := by
  rw [d_ref02_Heap_Pinned]
  simp only [ref02_Heap_Index_no, Option.bind_some, toB_bool, toI_int, Bool.not_false, Bool.not_true, cond_true, cond_false, five_ne, four_ne, r_ii_eq, neg_ge, toS_nil]

theorem ref02_Heap_Find_no {σ : AMem} (k : Nat) (x1 : Int) : d_ref02_Heap_Find (k + 2) none x1 σ = some ((.tuple #[.int .i64 0, .int .i64 5]), σ) := by
  rw [d_ref02_Heap_Find]
  simp only [ref02_Heap_Made_no, Option.bind_some, toB_bool, toI_int, Bool.not_false, Bool.not_true, cond_true, cond_false, five_ne, four_ne, r_ii_eq, neg_ge, toS_nil]

theorem ref02_Heap_Forward_no {σ : AMem} (k : Nat) (x1 : Int) : d_ref02_Heap_Forward (k + 2) none x1 σ = some ((.tuple #[.int .i64 0, .int .i64 5]), σ) := by
  rw [d_ref02_Heap_Forward]
  simp only [ref02_Heap_Made_no, Option.bind_some, toB_bool, toI_int, Bool.not_false, Bool.not_true, cond_true, cond_false, five_ne, four_ne, r_ii_eq, neg_ge, toS_nil]

theorem ref02_Heap_Ident_no {σ : AMem} (k : Nat) (x1 : Int) : d_ref02_Heap_Ident (k + 3) none x1 σ = some ((.tuple #[.int .i64 0, .int .i64 5]), σ) := by
  rw [d_ref02_Heap_Ident]
  simp only [ref02_Heap_lacks_no, ref02_Heap_Index_no, Option.bind_some, toB_bool, toI_int, Bool.not_false, Bool.not_true, cond_true, cond_false, five_ne, four_ne, r_ii_eq, neg_ge, toS_nil]

theorem ref02_Heap_Shape_no {σ : AMem} (k : Nat) (x1 : Int) : Adds (d_ref02_Heap_Shape (k + 3) none x1 σ) σ (.tuple #[.agg #[.int .i64 0, .int .i64 0, .int .i64 0], .int .i64 5]) := by
  unfold Adds
  rw [d_ref02_Heap_Shape]
  simp only [allocK, List.append_assoc, ref02_Heap_lacks_no, ref02_Heap_Index_no, Option.bind_some, toB_bool, toI_int, Bool.not_false, Bool.not_true, cond_true, cond_false, five_ne, four_ne, r_ii_eq, neg_ge, toS_nil]
  rw [stN_new _ _ _ _ rfl]
  simp only [Option.bind_some]
  rw [ldN_new _ _ _ _ 3 rfl]
  exact ⟨_, rfl⟩

theorem ref02_Heap_Ref_no {σ : AMem} (k : Nat) (x1 : Int) (x2 : Int) : d_ref02_Heap_Ref (k + 3) none x1 x2 σ = some ((.tuple #[.int .i64 0, .int .i64 5]), σ) := by
  rw [d_ref02_Heap_Ref]
  simp only [ref02_Heap_lacks_no, ref02_Heap_Index_no, Option.bind_some, toB_bool, toI_int, Bool.not_false, Bool.not_true, cond_true, cond_false, five_ne, four_ne, r_ii_eq, neg_ge, toS_nil]

theorem ref02_Heap_Data_no {σ : AMem} (k : Nat) (x1 : Int) (x2 : Int) : d_ref02_Heap_Data (k + 3) none x1 x2 σ = some ((.tuple #[.int .i64 0, .int .i64 5]), σ) := by
  rw [d_ref02_Heap_Data]
  simp only [ref02_Heap_lacks_no, ref02_Heap_Index_no, Option.bind_some, toB_bool, toI_int, Bool.not_false, Bool.not_true, cond_true, cond_false, five_ne, four_ne, r_ii_eq, neg_ge, toS_nil]

end Go.Proofs.YtdlihdgoobcoaaaGreat
