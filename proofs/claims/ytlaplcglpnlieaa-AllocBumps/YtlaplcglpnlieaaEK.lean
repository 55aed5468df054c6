/-
  What placing keeps.
-/
import Derived.Test.YtlaplcglpnlieaaEC
import Derived.Test.YtlaplcglpnlieaaCJ
set_option linter.unusedVariables false
set_option linter.unusedSimpArgs false
namespace Go.Proofs.Ytlaplcglpnlieaa
open Go Go.AX
noncomputable local instance qEK : Quiet := fullQuiet
local instance nEK : Kn := ⟨true⟩
variable {σ : AMem} {i : HIds} {m : HM} {ab : Nat} {a : AS}

structure PrOk (m : HM) (a : AS) (pr : PR) : Prop where
  inv : Inv pr.2.1
  inv2 : Inv2 pr.2.1
  brt : pr.2.1.births = m.births
  len : pr.2.1.bls.length = m.bls.length
  adr : 0 ≤ pr.1.1 ∧ pr.1.1 ≤ 10000
  s : pr.2.2.s = a.s
  p : pr.2.2.p = a.p
  ok : pr.2.2.ok
  no : pr.1.2 = false → pr.2 = (m, a)

theorem claimR_brt (m : HM) (b c x y x' y' : Int) : (claimR m b c x y x' y').2.births = m.births := by
  unfold claimR
  split
  · split <;> rfl
  · rfl

theorem begin_ok (h : Inv m) (h2 : Inv2 m) {b : Nat} (s : Int) : Inv (claim1 m b s) ∧ Inv2 (claim1 m b s) ∧ (claim1 m b s).births = m.births ∧ (claim1 m b s).bls.length = m.bls.length := by
  have k := claimR_keep h h2 (b : Int) 1 1 s 0 0
  exact ⟨k.inv, k.inv2, claimR_brt _ _ _ _ _ _ _, k.len⟩

theorem same_ok (h : Inv m) (h2 : Inv2 m) (ho : a.ok) : PrOk m a ((0, false), m, a) := ⟨h, h2, rfl, rfl, by dsimp only; omega, rfl, rfl, ho, fun _ => rfl⟩

theorem bumpR_ok (h : Inv m) (h2 : Inv2 m) (hl : m.bls.length ≤ 64) (ho : a.ok) (v : Bool) {w : Int} (hw : 0 ≤ w ∧ w ≤ 1000) : PrOk m a (bumpR m a v w) := by
  have hc := ho.cu v
  unfold bumpR
  split
  · exact ⟨h, h2, rfl, rfl, by dsimp only; omega, put_s _ _ _ _, put_p _ _ _ _, ho.put v (by omega) (by omega), fun hh => by cases hh⟩
  · split
    · rename_i b hb
      have := free1_spec hb
      obtain ⟨k1, k2, k3, k4⟩ := begin_ok (b := b) h h2 a.s
      exact ⟨k1, k2, k3, k4, by dsimp only; omega, put_s _ _ _ _, put_p _ _ _ _, ho.put v (by omega) (by omega), fun hh => by cases hh⟩
    · exact same_ok h h2 ho

theorem lgF_lt {c : Nat} {s : Int} : ∀ {n x b : Nat}, lgF m c s n x = some b → b + c ≤ m.bls.length
  | 0, x, b, h => by cases h
  | n + 1, x, b, h => by
    unfold lgF at h
    split at h
    · split at h
      · cases h; assumption
      · exact lgF_lt h
    · cases h

theorem largeR_ok (h : Inv m) (h2 : Inv2 m) (hl : m.bls.length ≤ 64) (ho : a.ok) (w : Int) : PrOk m a (largeR m a w) := by
  unfold largeR
  split
  · rename_i b hb
    have := lgF_lt hb
    have k := claimR_keep h h2 (b : Int) (((w.toNat + 63) / 64 : Nat) : Int) 2 a.s 3 a.s
    exact ⟨k.inv, k.inv2, claimR_brt _ _ _ _ _ _ _, k.len, by dsimp only; omega, rfl, rfl, ho, fun hh => by cases hh⟩
  · exact same_ok h h2 ho

structure AlOk (m : HM) (a : AS) (r : (Int × Int) × HM × AS) : Prop where
  inv : Inv r.2.1
  inv2 : Inv2 r.2.1
  b1 : m.births ≤ r.2.1.births
  b2 : r.2.1.births ≤ m.births + 1
  len : r.2.1.bls.length = m.bls.length
  s : r.2.2.s = a.s
  p : r.2.2.p = a.p
  ok : r.2.2.ok

theorem allocF_ok (h : Inv m) (h2 : Inv2 m) (ho : a.ok) {r d c : Int} {pr : PR} (hp : valid r d c = true → PrOk m a pr) (hS : valid r d c = true → Sh pr.2.1) : AlOk m a (allocF m a r d c pr) := by
  unfold allocF
  split
  · rename_i hv
    obtain ⟨k1, k2, k3, k4, k5, k6, k7, k8, k9⟩ := hp hv
    have kp := placeR_keep k1 k2 (hS hv) pr.1.1 r d c
    have b1 := kp.b1; have b2 := kp.b2
    split
    · split
      · split
        · exact ⟨kp.inv, kp.inv2, by dsimp only; omega, by dsimp only; omega, by rw [← k4]; exact kp.len, k6, k7, k8⟩
        · exact ⟨kp.inv, kp.inv2, by dsimp only; omega, by dsimp only; omega, by rw [← k4]; exact kp.len, rfl, rfl, ho⟩
      · exact ⟨k1, k2, by dsimp only; omega, by dsimp only; omega, k4, rfl, rfl, ho⟩
    · exact ⟨k1, k2, by dsimp only; omega, by dsimp only; omega, k4, k6, k7, k8⟩
  · exact ⟨h, h2, Int.le_refl _, by dsimp only; omega, rfl, rfl, rfl, ho⟩

theorem words_pos {r d c : Int} (h : valid r d c = true) : 2 ≤ words r d c ∧ words r d c ≤ 218 ∧ words r d c % 2 = 0 := by
  unfold words
  rw [h]
  simp only [cond_true]
  simp [valid] at h
  omega

theorem claimR_sh (hS : Sh m) (b c x y x' y' : Int) : Sh (claimR m b c x y x' y').2 := by
  have key : ∀ l : List (Int × Int), l.length = m.bls.length → Sh { m with bls := l } := fun l hl => by
    obtain ⟨p, q, r⟩ := hS
    exact ⟨by simp only; rw [hl]; exact p, by simp only; rw [hl]; exact q, by simp only; rw [hl]; exact r⟩
  unfold claimR
  split
  · split
    · exact key _ (by simp [clM_length])
    · exact hS
  · exact hS

end Go.Proofs.Ytlaplcglpnlieaa
