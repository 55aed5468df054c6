/-
  HeapIdents: what the law's function comes to.
-/
import Derived.Test.YtdlihdgoobcoaaaCX
set_option linter.unusedVariables false
set_option linter.unusedSimpArgs false
namespace Go.Proofs.Ytdlihdgoobcoaaa
open Go Go.AX
noncomputable local instance : Quiet := fullQuiet
variable {σ : AMem} {i : HIds} {m : HM}

def boRow (l : List Bool) : List Value := l.map Value.bool
theorem ldB_at {σ : AMem} {b o : Nat} {l : List Bool} {T : TypeId} (h : σ[b]? = some (.cells (boRow l) T true)) (ho : o < l.length) : ldB σ b o = some (l.getD o false) := by
  simp [ldB, ld1, h, boRow, toB, List.getElem?_eq_getElem ho]
theorem stB_at {σ : AMem} {b o : Nat} {l : List Bool} {T : TypeId} (v : Bool) (h : σ[b]? = some (.cells (boRow l) T true)) (ho : o < l.length) : st1 σ b o (.bool v) = some (σ.set b (.cells (boRow (l.set o v)) T true)) := by
  have : o < (boRow l).length := by simpa [boRow] using ho
  simp only [st1, h, this, if_true]
  simp [boRow, List.map_set]
theorem getD_setB (l : List Bool) (a b : Nat) (v : Bool) (ha : a < l.length) : (l.set a v).getD b false = if b = a then v else l.getD b false := by
  simp only [List.getD_eq_getElem?_getD, List.getElem?_set]
  by_cases h : a = b
  · subst h; simp [ha]
  · rw [if_neg h, if_neg (fun e => h e.symm)]

theorem mem_starts {lo n j : Nat} : j ∈ starts m lo n ↔ lo ≤ j ∧ j < lo + n ∧ tget 1 m.stw j = 1 := by
  unfold starts
  rw [List.mem_filter, List.mem_range'_1]
  simp [and_assoc]
theorem mem_all {j : Nat} : j ∈ starts m 0 (32 * m.bls.length) ↔ Start m j := by
  rw [mem_starts]; unfold Start; simp
theorem starts_nodup (lo n : Nat) : (starts m lo n).Nodup := (List.nodup_range' (step := 1) (by decide)).filter _

theorem addrs_getD (l : List Nat) {x : Nat} (hx : x < l.length) : (addrs l).getD x 0 = ((2 * l[x] : Nat) : Int) := by
  simp [addrs, List.getElem?_eq_getElem hx]

theorem Inv.same_id (h : Inv m) {j j' : Nat} (h1 : Start m j) (h2 : Start m j') (he : m.wds.getD (2 * j) 0 = m.wds.getD (2 * j') 0) : j = j' := by
  have a := (h.idn j h1).2.2
  have b := (h.idn j' h2).2.2
  rw [he, b] at a
  have := Option.some.inj a
  omega

theorem Idents_l0 (k : Nat) (hI : Inv m) (L : List Nat) (hL : ∀ j ∈ L, Start m j) (hnd : L.Nodup) (s : SlV) (sb : Nat) (T : TypeId) (lo : Nat) (hsb : sb ∉ i.l) (hlb : ∀ a, s.1 = some a → a.block ≠ sb) (hbb : m.births < 1000000) (hL1 : L.length ≤ 5000) : ∀ (n x f : Nat) (σ : AMem) (bs : List Bool),
    HeapAt σ i m → σ[sb]? = some (.cells (boRow bs) T true) → IntsAt lo σ s (addrs L) → bs.length = m.births.toNat + 1 → (∀ id : Nat, bs.getD id false = true ↔ ∃ j ∈ L.take x, m.wds.getD (2 * j) 0 = (id : Int)) → x + n = L.length → n < f →
    ∃ σ' bs', d_law02_HeapIdents_l0 (k + 14) f (hptr i) m.births s.1 s.2.1 s.2.2 sb (m.births.toNat + 1) (x : Int) σ = some (.exit 0, [], σ') ∧ HeapAt σ' i m ∧ σ'[sb]? = some (.cells (boRow bs') T true) ∧ bs'.length = m.births.toNat + 1 ∧
      (∀ id : Nat, bs'.getD id false = true ↔ ∃ j ∈ L, m.wds.getD (2 * j) 0 = (id : Int)) ∧ σ'.length = σ.length ∧ ∀ q, q ≠ sb → σ'[q]? = σ[q]?
  | 0, x, 0, σ, bs, h, hs, hl, hbl, hiff, hx, hf => by omega
  | 0, x, f + 1, σ, bs, h, hs, hl, hbl, hiff, hx, hf => by
    have hlen := hl.len
    rw [show (addrs L).length = L.length from by simp [addrs]] at hlen
    rw [d_law02_HeapIdents_l0]
    have q : decide ((x : Int) < ((s.2.1 : Nat) : Int)) = false := decide_eq_false (by omega)
    refine ⟨σ, bs, by simp only [q, cond_false], h, hs, hbl, ?_, rfl, fun _ _ => rfl⟩
    intro id
    rw [hiff id, List.take_of_length_le (by omega)]
  | n + 1, x, 0, σ, bs, h, hs, hl, hbl, hiff, hx, hf => by omega
  | n + 1, x, f + 1, σ, bs, h, hs, hl, hbl, hiff, hx, hf => by
    have hlen := hl.len
    rw [show (addrs L).length = L.length from by simp [addrs]] at hlen
    have hxl : x < L.length := by omega
    have hst := hL _ (List.getElem_mem hxl)
    have hsj := hst.1
    have ht := h.nt
    obtain ⟨i1, i2, i3⟩ := hI.idn _ hst
    obtain ⟨id, hid⟩ : ∃ id : Nat, m.wds.getD (2 * L[x]) 0 = (id : Int) := ⟨(m.wds.getD (2 * L[x]) 0).toNat, by omega⟩
    rw [hid] at i1 i2 i3
    have hidl : id < bs.length := by omega
    obtain ⟨sa, sl, sc⟩ := s
    cases sa with
    | none =>
      rcases hl with ⟨he, _⟩ | ⟨b, _, he, _, _⟩
      · have : (addrs L).length = 0 := by rw [he]; rfl
        simp [addrs] at this
        rw [this] at hxl; simp at hxl
      · cases he
    | some a =>
      rcases hl with ⟨he, _⟩ | ⟨b, hb1, he, hb2, hb3⟩
      · have : (addrs L).length = 0 := by rw [he]; rfl
        simp [addrs] at this
        rw [this] at hxl; simp at hxl
      cases he
      have hne : b ≠ sb := hlb _ rfl
      have hl' : IntsAt lo σ (some ⟨b, 0, none⟩, (addrs L).length, (addrs L).length) (addrs L) := .inr ⟨b, hb1, rfl, hb2, hb3⟩
      have ldx : ldI .i64 σ b x = some ((2 * L[x] : Nat) : Int) := by
        rw [hl'.ld (by simpa [addrs] using hxl), addrs_getD L hxl]
      have al : (addrs L).length = L.length := by simp [addrs]
      have hhas := hasM_of hst
      have hIdent := Ident_to (k + 8) h ((2 * L[x] : Nat) : Int) (by unfold inI; omega)
      rw [hhas, if_pos rfl, Int.toNat_natCast, hid] at hIdent
      have hIdent' : d_heap_Heap_Ident (k + 14) (hptr i) ((2 * L[x] : Nat) : Int) σ = _ := hIdent
      have hfree : bs.getD id false = false := by
        cases hq : bs.getD id false with
        | false => rfl
        | true =>
          obtain ⟨j, hj, he⟩ := (hiff id).1 hq
          have hjL : j ∈ L := List.mem_of_mem_take hj
          have : j = L[x] := hI.same_id (hL j hjL) hst (by rw [he, hid])
          subst this
          obtain ⟨q, hq1, hq2⟩ := List.mem_iff_getElem.1 hj
          rw [List.getElem_take] at hq2
          have hq3 : q < x := by simp at hq1; omega
          have := (List.getElem_inj hnd).1 hq2
          omega
      have hset : st1 σ sb id (.bool true) = some (σ.set sb (.cells (boRow (bs.set id true)) T true)) := stB_at true hs hidl
      obtain ⟨σ1, hσ1⟩ : ∃ σ1, σ.set sb (.cells (boRow (bs.set id true)) T true) = σ1 := ⟨_, rfl⟩
      rw [hσ1] at hset
      have hk1 : ∀ q, q ≠ sb → σ1[q]? = σ[q]? := fun q hq => by rw [← hσ1]; exact List.getElem?_set_ne (Ne.symm hq)
      have h1 : HeapAt σ1 i m := h.like fun q hq => hk1 q (fun e => hsb (e ▸ hq))
      have hs1 : σ1[sb]? = some (.cells (boRow (bs.set id true)) T true) := by rw [← hσ1]; exact List.getElem?_set_self (getElem?_lt hs)
      have hAt := At_to (k + 12) h1 (id : Int)
      rw [i3] at hAt
      have hAt' : d_heap_Heap_At (k + 14) (hptr i) (id : Int) σ1 = _ := hAt
      have ldx1 : ldI .i64 σ1 b x = some ((2 * L[x] : Nat) : Int) := by rw [← ldx]; simp only [ldI, ld1, hk1 b hne]
      have hl1 : IntsAt lo σ1 (some ⟨b, 0, none⟩, (addrs L).length, (addrs L).length) (addrs L) := .inr ⟨b, hb1, rfl, hb2, by rw [hk1 b hne]; exact hb3⟩
      have hiff1 : ∀ id' : Nat, (bs.set id true).getD id' false = true ↔ ∃ j ∈ L.take (x + 1), m.wds.getD (2 * j) 0 = (id' : Int) := by
        intro id'
        rw [getD_setB bs id id' true hidl, List.take_succ_eq_append_getElem hxl]
        by_cases hq : id' = id
        · subst hq
          simp only [if_true, true_iff]
          exact ⟨L[x], List.mem_append.2 (.inr (List.mem_singleton.2 rfl)), hid⟩
        · rw [if_neg hq, hiff id']
          constructor
          · rintro ⟨j, hj, he⟩; exact ⟨j, List.mem_append.2 (.inl hj), he⟩
          · rintro ⟨j, hj, he⟩
            rcases List.mem_append.1 hj with hj | hj
            · exact ⟨j, hj, he⟩
            · simp at hj; subst hj
              rw [hid] at he
              omega
      obtain ⟨σ', bs', e, r1, r2, r3, r4, r5, r6⟩ := Idents_l0 k hI L hL hnd (some ⟨b, 0, none⟩, (addrs L).length, (addrs L).length) sb T lo hsb hlb hbb hL1 n (x + 1) f σ1 (bs.set id true) h1 hs1 hl1 (by simpa using hbl) hiff1 (by omega) (by omega)
      refine ⟨σ', bs', ?_, r1, r2, r3, r4, by rw [r5, ← hσ1]; simp, fun q hq => (r6 q hq).trans (hk1 q hq)⟩
      rw [d_law02_HeapIdents_l0]
      have q0 : decide ((x : Int) < (((addrs L).length : Nat) : Int)) = true := decide_eq_true (by omega)
      have q1 : (0 ≤ (x : Int) ∧ (x : Int) < (((addrs L).length : Nat) : Int)) = True := eq_true (by omega)
      have q2 : decide ((id : Int) < 1) = false := decide_eq_false (by omega)
      have q3 : decide ((id : Int) > m.births) = false := decide_eq_false (by omega)
      have q4 : (0 ≤ (id : Int) ∧ (id : Int) < ((m.births.toNat + 1 : Nat) : Int)) = True := eq_true (by omega)
      have w1 : w64 ((x : Int) + 1) = ((x + 1 : Nat) : Int) := w64_in (by unfold inI; omega)
      simp only [q0, cond_true, q1, if_true, Option.bind_some, Nat.zero_add, Int.toNat_natCast, Nat.mul_one, ldx, hIdent', r_ii_eq, bne_self_eq_false, cond_false, q2, q3, q4, ldB_at hs hidl, hfree, hset, hAt', ldx1, w1]
      exact e

theorem Idents_l1 (k : Nat) (hI : Inv m) (h : HeapAt σ i m) (sb : Nat) (T : TypeId) (bs : List Bool) (hs : σ[sb]? = some (.cells (boRow bs) T true)) (hbl : bs.length = m.births.toNat + 1) (hbb : m.births < 1000000)
    (hiff : ∀ id : Nat, bs.getD id false = true ↔ ∃ j, Start m j ∧ m.wds.getD (2 * j) 0 = (id : Int)) : ∀ (n x f : Nat), x + n = m.births.toNat + 1 → n < f → d_law02_HeapIdents_l1 (k + 14) f (hptr i) m.births sb (m.births.toNat + 1) (x : Int) σ = some (.exit 2, [], σ)
  | 0, x, 0, hx, hf => by omega
  | 0, x, f + 1, hx, hf => by
    have := hI.brt
    rw [d_law02_HeapIdents_l1]
    have q : decide ((x : Int) ≤ m.births) = false := decide_eq_false (by omega)
    simp only [q, cond_false]
  | n + 1, x, 0, hx, hf => by omega
  | n + 1, x, f + 1, hx, hf => by
    have hbrt := hI.brt
    have ih := Idents_l1 k hI h sb T bs hs hbl hbb hiff n (x + 1) f (by omega) (by omega)
    have hAt := At_to (k + 12) h (x : Int)
    have hAt' : d_heap_Heap_At (k + 14) (hptr i) (x : Int) σ = _ := hAt
    have q : decide ((x : Int) ≤ m.births) = true := decide_eq_true (by omega)
    have q4 : (0 ≤ (x : Int) ∧ (x : Int) < ((m.births.toNat + 1 : Nat) : Int)) = True := eq_true (by omega)
    have w1 : w64 ((x : Int) + 1) = ((x + 1 : Nat) : Int) := w64_in (by unfold inI; omega)
    rw [d_law02_HeapIdents_l1]
    simp only [q, cond_true, hAt', Option.bind_some, q4, if_true, Nat.zero_add, Nat.mul_one, Int.toNat_natCast, ldB_at hs (show x < bs.length by omega), w1]
    cases hg : getM m.pl (x : Int) with
    | some a =>
      obtain ⟨j, rfl, hst, he⟩ := hI.plc _ _ hg
      have : bs.getD x false = true := (hiff x).2 ⟨j, hst, he⟩
      simp only [r_ii_eq, BEq.rfl, this, Bool.not_true, cond_false]
      exact ih
    | none =>
      have : bs.getD x false = false := by
        cases hq : bs.getD x false with
        | false => rfl
        | true =>
          obtain ⟨j, hst, he⟩ := (hiff x).1 hq
          have := (hI.idn j hst).2.2
          rw [he, hg] at this
          cases this
      simp only [r_ii_eq, show ((4 : Int) == 0) = false from rfl, this, BEq.rfl, Bool.not_true, cond_false]
      exact ih

theorem rep_bool (n : Nat) : rep n [Value.bool false] = boRow (List.replicate n false) := by
  simp only [rep, boRow, List.map_replicate]
  induction n with
  | zero => rfl
  | succ n ih => rw [List.replicate_succ, List.flatten_cons, ih, List.replicate_succ]; rfl

theorem alive_to (k : Nat) (σ : AMem) : d_law02_alive (k + 1) σ = some (.bool true, σ) := rfl

theorem HeapIdents_to (k : Nat) (hk : 5000 ≤ k) (b : Int) (p : Option Addr) (c2 : Nat) (l : List ActV) (hok : ∀ x ∈ l, x.ok) (a r d c : Int) (ha : inI a) (σ : AMem) (hA : ActsAt σ p l) (hp : l ≠ [] → ∀ a, p = some a → a.block < σ.length) :
    ∃ σ', law02_HeapIdents (k + 15) b (p, l.length, c2) a r d c σ = some (.bool true, σ') := by
  rw [law02_HeapIdents_is, d_law02_HeapIdents]
  simp only [allocK]
  obtain ⟨μ, hμ⟩ : ∃ μ, σ ++ [AObj.cells [Value.int .i64 r, .int .i64 d, .int .i64 c] ty_api_Shape true] = μ := ⟨_, rfl⟩
  have hA0 : ActsAt μ p l := by
    rcases hA with hA | ⟨ab, T, rw', rfl, hA⟩
    · exact .inl hA
    · exact .inr ⟨ab, T, rw', rfl, by rw [← hμ, List.getElem?_append_left (getElem?_lt hA)]; exact hA⟩
  have hml : μ.length = σ.length + 1 := by rw [← hμ]; simp
  have hp0 : l ≠ [] → ∀ a, p = some a → a.block < μ.length := fun hl a e => by have := hp hl a e; omega
  have hbox : μ[σ.length]? = some (AObj.cells [Value.int .i64 r, .int .i64 d, .int .i64 c] ty_api_Shape true) := by rw [← hμ]; simp
  rw [hμ]
  rcases Made_to k hk b p c2 l hok hA0 hp0 with hM | ⟨σ1, i, m, hM, h1, hI, k1, hid, hb60⟩
  · simp only [hM, Option.bind_some, toP, eqA_ptrs ⟨0, 0, none⟩, cond_true, alive_to, toB_bool]
    exact ⟨_, rfl⟩
  have hbrt := hI.brt
  have ht := h1.nt
  have hB := Births_to (k + 12) h1
  have hB' : d_heap_Heap_Births (k + 14) (hptr i) σ1 = _ := hB
  obtain ⟨τ2, s, hAll, hL⟩ := All_to (k + 8) (by omega) h1
  have hAll' : d_heap_Heap_All (k + 14) (hptr i) σ1 = _ := hAll
  have w1 : w64 (m.births + 1) = ((m.births.toNat + 1 : Nat) : Int) := by rw [w64_in (by unfold inI; omega)]; omega
  simp only [hM, Option.bind_some, toP, eqA_ptrs, cond_false, hB', toI_int, hAll', toS, w1]
  rw [if_pos (by omega)]
  simp only [Int.toNat_natCast, rep_bool]
  obtain ⟨σ2, hσ2⟩ : ∃ σ2, σ1 ++ τ2 = σ2 := ⟨_, rfl⟩
  rw [hσ2] at hL ⊢
  have h2 : HeapAt σ2 i m := hσ2 ▸ h1.app τ2
  have k2 : Keeps i σ1 σ2 := hσ2 ▸ Keeps.app i σ1 τ2
  obtain ⟨σ3, hσ3⟩ : ∃ σ3, σ2 ++ [AObj.cells (boRow (List.replicate (m.births.toNat + 1) false)) 4 true] = σ3 := ⟨_, rfl⟩
  rw [hσ3]
  have h3 : HeapAt σ3 i m := hσ3 ▸ h2.app _
  have k3 : Keeps i σ2 σ3 := hσ3 ▸ Keeps.app i σ2 _
  have hs3 : σ3[σ2.length]? = some (AObj.cells (boRow (List.replicate (m.births.toNat + 1) false)) 4 true) := by rw [← hσ3]; simp
  have hL3 : IntsAt σ1.length σ3 s (addrs (starts m 0 (32 * m.bls.length))) := hσ3 ▸ hL.app _
  have hsb : σ2.length ∉ i.l := fun hm => Nat.lt_irrefl _ (h2.lt _ hm)
  have hlb : ∀ a, s.1 = some a → a.block ≠ σ2.length := by
    intro a ha'
    rcases hL with ⟨_, rfl⟩ | ⟨b, _, rfl, _, hc⟩
    · cases ha'
    · cases ha'
      have := getElem?_lt hc
      exact Nat.ne_of_lt this
  have hlen : (starts m 0 (32 * m.bls.length)).length ≤ 5000 := by
    have : (starts m 0 (32 * m.bls.length)).length ≤ (List.range' 0 (32 * m.bls.length)).length := List.length_filter_le _ _
    simp at this; omega
  obtain ⟨σ4, bs, e4, h4, hs4, hb4, hiff4, hl4, hk4⟩ := Idents_l0 k hI (starts m 0 (32 * m.bls.length)) (fun j hj => mem_all.1 hj) (starts_nodup _ _) s σ2.length 4 σ1.length hsb hlb (by omega) hlen
    (starts m 0 (32 * m.bls.length)).length 0 (k + 14) σ3 (List.replicate (m.births.toNat + 1) false) h3 hs3 hL3 (by simp) (fun id => by
      simp only [List.take_zero, List.not_mem_nil, false_and, exists_false, iff_false, List.getD_eq_getElem?_getD, List.getElem?_replicate]
      split <;> simp) (by omega) (by omega)
  rw [show ((0 : Nat) : Int) = 0 from rfl] at e4
  have hnb : σ.length ∉ i.l := fun hm => by have := hid _ hm; omega
  have hx1 := (k1.same _ (getElem?_lt hbox) hnb).trans hbox
  have hx2 := (k2.same _ (getElem?_lt hx1) hnb).trans hx1
  have hx3 := (k3.same _ (getElem?_lt hx2) hnb).trans hx2
  have hx4 := (hk4 σ.length (Nat.ne_of_lt (getElem?_lt hx2))).trans hx3
  have l0 : ldI .i64 σ4 σ.length 0 = some r := by simp [ldI, ld1, hx4, toI]
  have l1 : ldI .i64 σ4 σ.length 1 = some d := by simp [ldI, ld1, hx4, toI]
  have l2 : ldI .i64 σ4 σ.length 2 = some c := by simp [ldI, ld1, hx4, toI]
  have e5 := Idents_l1 k hI h4 σ2.length 4 bs hs4 hb4 (by omega) (fun id => by
    rw [hiff4 id]
    constructor
    · rintro ⟨j, hj, he⟩; exact ⟨j, mem_all.1 hj, he⟩
    · rintro ⟨j, hj, he⟩; exact ⟨j, mem_all.2 hj, he⟩) m.births.toNat 1 (k + 14) (by omega) (by omega)
  rw [show ((1 : Nat) : Int) = 1 from rfl] at e5
  obtain ⟨id, code, m', σ5, e6, h5, _, _, _, g5, g6⟩ := Place_to (k + 2) (by omega) h4 hI (by omega) a r d c ha
  have e6' : d_heap_Heap_Place (k + 14) (hptr i) a r d c σ4 = _ := e6
  have hB5 := Births_to (k + 12) h5
  have hB5' : d_heap_Heap_Births (k + 14) (hptr i) σ5 = _ := hB5
  simp only [e4, Option.bind_some, if_true, e5, reduceCtorEq, if_false, Nat.zero_add, Nat.reduceAdd, l0, l1, l2, e6', r_ii_eq]
  have wb : ((m.births.toNat + 1 : Nat) : Int) = m.births + 1 := by omega
  rw [wb]
  by_cases hc : code = 0
  · obtain ⟨q1, q2⟩ := g5 hc
    subst hc
    subst q1
    simp only [BEq.rfl, cond_true, Option.bind_some, hB5', toI_int, q2, alive_to, toB_bool]
    exact ⟨_, rfl⟩
  · obtain ⟨q1, q2⟩ := g6 hc
    subst q1
    have p1 : (code == 0) = false := by simpa using hc
    have p2 : (code != 0) = true := by simpa using hc
    simp only [p1, p2, cond_false, cond_true, BEq.rfl, Option.bind_some, hB5', toI_int, q2, alive_to, toB_bool]
    exact ⟨_, rfl⟩

end Go.Proofs.Ytdlihdgoobcoaaa
