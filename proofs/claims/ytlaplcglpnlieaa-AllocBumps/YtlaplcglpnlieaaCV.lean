/-
  Move.
-/
import Derived.Test.YtlaplcglpnlieaaCN
set_option linter.unusedVariables false
set_option linter.unusedSimpArgs false
namespace Go.Proofs.Ytlaplcglpnlieaa
open Go Go.AX
noncomputable local instance qCV : Quiet := fullQuiet
local instance nCV : Kn := ⟨true⟩
variable {σ : AMem} {i : HIds} {m : HM}

/-- A heap with an object more, whose words are given. -/
def addM (m : HM) (t : Nat) (id : Int) (held : List Int) : HM :=
  { m with wds := putW m.wds (2 * t) held, stw := tput 1 m.stw t 1, pl := setM id ((2 * t : Nat) : Int) m.pl }

theorem start_add {t j' : Nat} {id : Int} {held : List Int} (hl : 32 * m.bls.length ≤ 64 * m.stw.length) (hj : t < 32 * m.bls.length) : Start (addM m t id held) j' ↔ j' = t ∨ Start m j' := by
  unfold Start addM
  simp only
  by_cases hq : j' = t
  · subst hq
    simp only [true_or, iff_true]
    exact ⟨hj, tget_tput_same (.inl rfl) (by decide) (by omega)⟩
  · rw [tget_tput_other (.inl rfl) (by decide) (fun e => hq e.symm)]
    simp [hq]

theorem Inv.add (h : Inv m) (hl : 32 * m.bls.length ≤ 64 * m.stw.length) {t : Nat} {id : Int} {held : List Int} {r d k : Int} (hv : valid r d k = true) (hj : t < 32 * m.bls.length)
    (hlen : held.length = szN (num r d k)) (h0 : held.getD 0 0 = id) (h1 : held.getD 1 0 = num r d k) (hid : 1 ≤ id ∧ id ≤ m.births) (hnone : getM m.pl id = none)
    (hfit : 2 * t + szN (num r d k) ≤ m.wds.length) (hap : ∀ o, Start m o → 2 * o + sz m o ≤ 2 * t ∨ 2 * t + szN (num r d k) ≤ 2 * o) : Inv (addM m t id held) := by
  have hst := fun j' => start_add (m := m) (t := t) (j' := j') (id := id) (held := held) hl hj
  have h3 : 2 ≤ szN (num r d k) := by
    rw [szN_num hv]
    simp [valid] at hv
    omega
  have hnj : ¬ Start m t := fun hs => by
    have h1 := hap t hs
    have h2 := h.size hs
    omega
  have hle : 2 * t + held.length ≤ m.wds.length := by omega
  have w0 : (addM m t id held).wds.getD (2 * t) 0 = id := by
    show (putW _ _ _).getD _ 0 = _
    rw [putW_getD hle, if_pos (by omega), Nat.sub_self, h0]
  have w1 : (addM m t id held).wds.getD (2 * t + 1) 0 = num r d k := by
    show (putW _ _ _).getD _ 0 = _
    rw [putW_getD hle, if_pos (by omega), show 2 * t + 1 - 2 * t = 1 from by omega, h1]
  have wo : ∀ j', Start m j' → ∀ c, c < 2 → (addM m t id held).wds.getD (2 * j' + c) 0 = m.wds.getD (2 * j' + c) 0 := by
    intro j' hs' c hc
    have hz := h.size hs'
    have := hap j' hs'
    show (putW _ _ _).getD _ 0 = _
    rw [putW_getD hle, if_neg (by omega)]
  have s1 : sz (addM m t id held) t = szN (num r d k) := by unfold sz; rw [w1]
  have so : ∀ j', Start m j' → sz (addM m t id held) j' = sz m j' := fun j' hs' => by unfold sz; rw [wo j' hs' 1 (by decide)]
  have wl : (addM m t id held).wds.length = m.wds.length := putW_length hle
  have wo0 : ∀ j', Start m j' → (addM m t id held).wds.getD (2 * j') 0 = m.wds.getD (2 * j') 0 := fun j' hs' => wo j' hs' 0 (by decide)
  have hpl : ∀ x, getM (addM m t id held).pl x = if x = id then some ((2 * t : Nat) : Int) else getM m.pl x := fun x => getM_set _ _ _ _
  refine ⟨fun j' hs' => ?_, fun j' hs' => ?_, fun j1 j2 h1 h2 hlt => ?_, fun j' hs' => ?_, fun id' a hg => ?_, h.brt, once_set _ _ _ h.onc⟩
  · rcases (hst j').1 hs' with rfl | hs'
    · exact ⟨r, d, k, hv, w1⟩
    · obtain ⟨r', d', k', hv', hn⟩ := h.good j' hs'
      exact ⟨r', d', k', hv', by rw [wo j' hs' 1 (by decide)]; exact hn⟩
  · rw [wl]
    rcases (hst j').1 hs' with rfl | hs'
    · rw [s1]; exact hfit
    · rw [so j' hs']; exact h.fit j' hs'
  · rcases (hst j1).1 h1 with rfl | h1'
    · rcases (hst j2).1 h2 with rfl | h2'
      · omega
      · rw [s1]
        have := hap j2 h2'
        have := h.size h2'
        omega
    · rw [so j1 h1']
      rcases (hst j2).1 h2 with rfl | h2'
      · have := hap j1 h1'
        omega
      · exact h.apart j1 j2 h1' h2' hlt
  · rw [hpl]
    rcases (hst j').1 hs' with rfl | hs'
    · rw [w0]
      exact ⟨hid.1, hid.2, if_pos rfl⟩
    · rw [wo0 j' hs']
      obtain ⟨i1, i2, i3⟩ := h.idn j' hs'
      refine ⟨i1, i2, ?_⟩
      rw [if_neg (fun e => by rw [e, hnone] at i3; cases i3)]; exact i3
  · rw [hpl] at hg
    split at hg
    · rename_i hid'
      cases hg
      exact ⟨t, rfl, (hst t).2 (.inl rfl), by rw [w0, hid']⟩
    · obtain ⟨j', rfl, hs', he⟩ := h.plc id' a hg
      exact ⟨j', rfl, (hst j').2 (.inr hs'), by rw [wo0 j' hs']; exact he⟩

/-- Another list of places that says the same. -/
theorem Inv.places (h : Inv m) (l : List (Int × Int)) (ho : Once l) (hg : ∀ x, getM l x = getM m.pl x) : Inv { m with pl := l } :=
  ⟨h.good, h.fit, h.apart, fun j hs => by rw [hg]; exact h.idn j hs, fun id a e => h.plc id a (by rw [← hg]; exact e), h.brt, ho⟩

/-- A heap whose object at one pair has gone to another. -/
def moveM (m : HM) (j t : Nat) : HM :=
  { m with
    wds := putW (putW m.wds (2 * j) (List.replicate (sz m j) 0)) (2 * t) ((m.wds.drop (2 * j)).take (sz m j))
    stw := tput 1 (tput 1 m.stw j 0) t 1
    pnw := tput 1 (tput 1 m.pnw j 0) t (tget 1 m.pnw j)
    pl := setM (m.wds.getD (2 * j) 0) ((2 * t : Nat) : Int) m.pl
    fw := setM ((2 * j : Nat) : Int) ((2 * t : Nat) : Int) m.fw }

theorem Inv.move (h : Inv m) (hl : 32 * m.bls.length ≤ 64 * m.stw.length) {j t : Nat} (hs : Start m j) (ht : t < 32 * m.bls.length) (hfit : 2 * t + sz m j ≤ m.wds.length)
    (hap : ∀ o, Start m o → o ≠ j → 2 * o + sz m o ≤ 2 * t ∨ 2 * t + sz m j ≤ 2 * o) : Inv (moveM m j t) := by
  have hj := hs.1
  have hf := h.fit j hs
  have hz := h.size hs
  have hst := fun j' => start_kill (m := m) (j := j) (j' := j') hl hj
  obtain ⟨r, d, k, hv, hn⟩ := h.good j hs
  obtain ⟨i1, i2, i3⟩ := h.idn j hs
  have hsz : sz m j = szN (num r d k) := by unfold sz; rw [hn]
  have hk := h.kill hl hs
  have held : ∀ c, c < sz m j → ((m.wds.drop (2 * j)).take (sz m j)).getD c 0 = m.wds.getD (2 * j + c) 0 := by
    intro c hc
    simp only [List.getD_eq_getElem?_getD, List.getElem?_take, hc, if_true, List.getElem?_drop]
  have wl : (killM m j).wds.length = m.wds.length := putW_length (by simpa using hf)
  have so : ∀ o, Start m o → o ≠ j → sz (killM m j) o = sz m o := by
    intro o ho hne
    have hz' := h.size ho
    unfold sz
    congr 1
    show (putW _ _ _).getD _ 0 = _
    rw [putW_getD (by simpa using hf), if_neg]
    rintro ⟨p1, p2⟩
    simp only [List.length_replicate] at p2
    rcases Nat.lt_trichotomy j o with hlt | rfl | hlt
    · have := h.apart j o hs ho hlt; omega
    · exact hne rfl
    · have := h.apart o j ho hs hlt; omega
  have ha := hk.add (t := t) (id := m.wds.getD (2 * j) 0) (held := (m.wds.drop (2 * j)).take (sz m j)) (r := r) (d := d) (k := k)
    (by show 32 * m.bls.length ≤ 64 * (tput _ _ _ _).length; rw [tput_length]; exact hl) hv ht (by rw [← hsz]; simp; omega) (held 0 (by omega)) (by rw [held 1 (by omega), hn]) ⟨i1, i2⟩
    (by show getM (delM _ _) _ = none; rw [getM_del _ _ _ h.onc, if_pos rfl]) (by rw [← hsz, wl]; exact hfit)
    (fun o ho => by
      obtain ⟨hne, ho'⟩ := (hst o).1 ho
      rw [← hsz, so o ho' hne]; exact hap o ho' hne)
  have hp := ha.places (setM (m.wds.getD (2 * j) 0) ((2 * t : Nat) : Int) m.pl) (once_set _ _ _ h.onc) (fun x => by
    show getM (setM _ _ _) x = getM (setM _ _ (delM _ _)) x
    rw [getM_set, getM_set, getM_del _ _ _ h.onc]
    split <;> rfl)
  exact (hp.pins (tput 1 (tput 1 m.pnw j 0) t (tget 1 m.pnw j))).forwards (setM ((2 * j : Nat) : Int) ((2 * t : Nat) : Int) m.fw)

theorem slice_from (h : HeapAt σ i m) {a : Nat} (ha : a < m.wds.length) :
    sliceD ty_int 1 (some ⟨i.wd, 0, none⟩, m.wds.length, m.wds.length) (some (.int .i64 (a : Int))) none none σ = some (some ⟨i.wd, a, none⟩, m.wds.length - a, m.wds.length - a) := by
  have e1 : elemAt σ i.wd = some 3 := by simp only [elemAt, h.wd]
  have c2 : (0 ≤ (a : Int) ∧ (a : Int) ≤ ((m.wds.length : Nat) : Int)) := by omega
  simp only [sliceD, Option.isSome_none, Bool.not_false, Bool.true_or, cond_true, bound, Int.toNat_natCast]
  rw [if_pos c2, if_neg (by omega)]
  simp [e1]

theorem store_words (h : HeapAt σ i m) {a : Nat} {v : List Int} (ha : a + v.length ≤ m.wds.length) (hv : ∀ x, inI (v.getD x 0)) :
    stN σ i.wd a (inRow v) = some (σ.set i.wd (.cells (inRow (putW m.wds a v)) el_heap_Heap_words true)) ∧ HeapAt (σ.set i.wd (.cells (inRow (putW m.wds a v)) el_heap_Heap_words true)) i { m with wds := putW m.wds a v } := by
  refine ⟨?_, h.setWd _ (putW_length ha) fun x => ?_⟩
  · simp only [stN, h.wd, inRow_length, ha, if_true, inRow_put]
  · rw [putW_getD ha]
    split
    · exact hv _
    · exact h.wi x

def moveR (m : HM) (a b : Int) : Int × HM :=
  if hasM m a then (if fitsM m b (sz m (a.toNat / 2)) a = 0 then (0, moveM m (a.toNat / 2) (b.toNat / 2)) else (fitsM m b (sz m (a.toNat / 2)) a, m)) else (4, m)

/-! CC -/

theorem Inv.blocks (h : Inv m) (l : List (Int × Int)) (hl : l.length = m.bls.length) : Inv { m with bls := l } := by
  have hs : ∀ j, Start { m with bls := l } j ↔ Start m j := fun j => by unfold Start; simp only [hl]
  exact ⟨fun j hj => h.good j ((hs j).1 hj), fun j hj => h.fit j ((hs j).1 hj), fun j j' h1 h2 => h.apart j j' ((hs j).1 h1) ((hs j').1 h2), fun j hj => h.idn j ((hs j).1 hj), fun id a e => by
    obtain ⟨j, e1, e2, e3⟩ := h.plc id a e
    exact ⟨j, e1, (hs j).2 e2, e3⟩, h.brt, h.onc⟩

theorem blRow_set : ∀ (l : List (Int × Int)) (b : Nat) (x y : Int), b < l.length → blRow (l.set b (x, y)) = setRange (blRow l) (b * 2) [.int .i64 x, .int .i64 y]
  | [], _, _, _, h => by simp at h
  | e :: l, 0, x, y, h => by simp [blRow, setRange]
  | e :: l, b + 1, x, y, h => by
    have ih := blRow_set l b x y (by simpa using h)
    have e1 : (b + 1) * 2 = b * 2 + 1 + 1 := by omega
    simp only [List.set_cons_succ, blRow, ih, e1, setRange, List.take_succ_cons, List.drop_succ_cons, List.cons_append, List.length_cons, List.length_nil]

theorem HeapAt.stB (h : HeapAt σ i m) {b : Nat} (hb : b < m.bls.length) (x y : Int) : stN σ i.bl (b * 2) [.int .i64 x, .int .i64 y] = some (σ.set i.bl (.cells (blRow (m.bls.set b (x, y))) el_heap_Heap_blocks true)) ∧
    HeapAt (σ.set i.bl (.cells (blRow (m.bls.set b (x, y))) el_heap_Heap_blocks true)) i { m with bls := m.bls.set b (x, y) } := by
  refine ⟨?_, h.setBl _ (by simp)⟩
  have : b * 2 + 2 ≤ (blRow m.bls).length := by rw [blRow_length]; omega
  simp only [stN, h.bl, List.length_cons, List.length_nil, Nat.zero_add, Nat.reduceAdd, this, if_true, blRow_set _ _ _ _ hb]

theorem blRow_tag (l : List (Int × Int)) (b : Nat) (y : Int) (hb : b < l.length) : (blRow l).set (b * 2 + 1) (.int .i64 y) = blRow (l.set b ((l.getD b (0, 0)).1, y)) := by
  rw [blRow_set _ _ _ _ hb]
  have h1 := (blRow_get l b hb).1
  rw [Nat.mul_comm] at h1
  have hlen := blRow_length l
  apply List.ext_getElem?
  intro n
  rw [List.getElem?_set]
  unfold setRange
  have ht : ((blRow l).take (b * 2)).length = b * 2 := by simp; omega
  rcases Nat.lt_or_ge n (b * 2) with hn | hn
  · rw [if_neg (by omega), List.append_assoc, List.getElem?_append_left (by rw [ht]; exact hn), List.getElem?_take, if_pos hn]
  · rw [List.append_assoc, List.getElem?_append_right (by rw [ht]; exact hn), ht]
    rcases Nat.eq_or_lt_of_le hn with rfl | hn1
    · rw [if_neg (by omega), Nat.sub_self, h1]; rfl
    · rcases Nat.eq_or_lt_of_le hn1 with rfl | hn2
      · rw [if_pos rfl, if_pos (by omega)]
        rw [show b * 2 + 1 - b * 2 = 1 from by omega]; rfl
      · rw [if_neg (by omega)]
        obtain ⟨q, rfl⟩ : ∃ q, n = b * 2 + 2 + q := ⟨n - (b * 2 + 2), by omega⟩
        rw [show b * 2 + 2 + q - b * 2 = q + 1 + 1 from by omega]
        simp [List.getElem?_drop]

theorem HeapAt.stT (h : HeapAt σ i m) {b : Nat} (hb : b < m.bls.length) (y : Int) : AX.st1 σ i.bl (b * 2 + 1) (.int .i64 y) = some (σ.set i.bl (.cells (blRow (m.bls.set b ((m.bls.getD b (0, 0)).1, y))) el_heap_Heap_blocks true)) ∧
    HeapAt (σ.set i.bl (.cells (blRow (m.bls.set b ((m.bls.getD b (0, 0)).1, y))) el_heap_Heap_blocks true)) i { m with bls := m.bls.set b ((m.bls.getD b (0, 0)).1, y) } := by
  refine ⟨?_, h.setBl _ (by simp)⟩
  have : b * 2 + 1 < (blRow m.bls).length := by rw [blRow_length]; omega
  simp only [AX.st1, h.bl, this, if_true, blRow_tag _ _ _ hb]

/-- Blocks from one on, made free from the last to the first. -/
def relM (l : List (Int × Int)) (b : Nat) : Nat → List (Int × Int)
  | 0 => l
  | n + 1 => relM (l.set (b + n) (0, 0)) b n
def tagM (l : List (Int × Int)) (b : Nat) (y : Int) : Nat → List (Int × Int)
  | 0 => l
  | n + 1 => tagM (l.set (b + n) ((l.getD (b + n) (0, 0)).1, y)) b y n
theorem relM_length (b : Nat) : ∀ (n : Nat) (l : List (Int × Int)), (relM l b n).length = l.length
  | 0, l => rfl
  | n + 1, l => by rw [relM, relM_length b n]; simp
theorem tagM_length (b : Nat) (y : Int) : ∀ (n : Nat) (l : List (Int × Int)), (tagM l b y n).length = l.length
  | 0, l => rfl
  | n + 1, l => by rw [tagM, tagM_length b y n]; simp

theorem there_h (k : Nat) (h : HeapAt σ i m) (b : Int) : d_heap_Heap_there (k + 2) (hptr i) b σ = some (.bool (decide (1 ≤ b ∧ b < (m.bls.length : Int))), σ) := by
  rw [d_heap_Heap_there_eq, b_heap_Heap_there]
  simp only [hmade_to _ h, Option.bind_some, toB_bool, cond_true]
  by_cases h0 : 1 ≤ b
  · simp only [show decide (b ≥ 1) = true from by simpa using h0, cond_true, Nat.zero_add, Option.bind_some, h.ld0]
    simp [h0]
  · simp only [show decide (b ≥ 1) = false from by simpa using h0, cond_false, Option.bind_some]
    simp [h0]

/-- held: why a block is neither used nor a head. -/
def heldM (m : HM) (b : Int) (ok : Bool) : Int :=
  if ¬ (1 ≤ b ∧ b < (m.bls.length : Int)) ∨ ok = false then 1
  else if (m.bls.getD b.toNat (0, 0)).1 ≠ 1 ∧ (m.bls.getD b.toNat (0, 0)).1 ≠ 2 then 5 else 0

theorem heldM_zero {b : Int} {ok : Bool} (h : heldM m b ok = 0) : ∃ n : Nat, b = (n : Int) ∧ 1 ≤ n ∧ n < m.bls.length ∧ ok = true := by
  unfold heldM at h
  split at h
  · cases h
  · rename_i h0
    refine ⟨b.toNat, ?_, ?_, ?_, ?_⟩
    · omega
    · omega
    · omega
    · cases ok <;> simp at h0 ⊢

theorem spanF_le {b : Nat} (hb : b < m.bls.length) : b + spanF m b ≤ m.bls.length := spanM_le m b _ 1 (by omega)

def okSp (y : Int) : Bool := decide (0 ≤ y ∧ y < 8)
theorem space_to (k : Nat) (y : Int) (σ : AMem) : d_heap_space (k + 1) y σ = some (.bool (okSp y), σ) := by
  rw [d_heap_space_eq, b_heap_space]
  unfold okSp
  by_cases h0 : 0 ≤ y <;> simp [h0]

def retagR (m : HM) (b y : Int) : Int × HM :=
  if heldM m b (okSp y) = 0 then (0, { m with bls := tagM m.bls b.toNat y (spanF m b.toNat) }) else (heldM m b (okSp y), m)
def releaseR (m : HM) (b : Int) : Int × HM :=
  if heldM m b true = 0 then (if starts m (32 * b.toNat) 32 = [] then (0, { m with bls := relM m.bls b.toNat (spanF m b.toNat) }) else (8, m)) else (heldM m b true, m)

/-! CL -/

theorem eqA_blk (x y : Int) : eqA P ty_heap_block (.agg #[.int .i64 x, .int .i64 y]) (.agg #[.int .i64 0, .int .i64 0]) = (bif x == 0 then some (y == 0) else some false) := by kernel_rfl

theorem claim_c1_to (k : Nat) (x y : Int) (σ : AMem) : ∃ τ, d_heap_Heap_claim_c1 (k + 1) x y σ = some (.bool (!(bif x == 0 then y == 0 else false)), σ ++ τ) := by
  rw [d_heap_Heap_claim_c1_eq, b_heap_Heap_claim_c1]
  simp only [allocK, ldI_new, Nat.zero_add, List.getElem?_cons_zero, List.getElem?_cons_succ, Option.bind_some, toI_int]
  rw [eqA_blk]
  cases x == 0 <;> exact ⟨_, rfl⟩

/-- The first of n blocks that is not free. -/
def usedM (l : List (Int × Int)) (b : Nat) : Nat → Nat → Option Nat
  | 0, _ => none
  | n + 1, x => if (l.getD (b + x) (0, 0)).1 = 0 ∧ (l.getD (b + x) (0, 0)).2 = 0 then usedM l b n (x + 1) else some x

theorem Index_l0_to (k : Nat) {b c : Nat} (c2 : Nat) (v : Value) (hv : ∀ x y σ, ∃ τ, d_callV_ii_t k v [.agg #[.int .i64 x, .int .i64 y]] σ = some (.bool (!(bif x == 0 then y == 0 else false)), σ ++ τ)) : ∀ (n x f : Nat) (σ : AMem), HeapAt σ i m → b + c ≤ m.bls.length → x + n = c → n < f →
    ∃ τ, d_slices_IndexFunc_heap_block_l0 k f (some ⟨i.bl, b * 2, none⟩) c c2 v (c : Int) (x : Int) σ = some (match usedM m.bls b n x with | some x' => (.ret, [.int .i64 (x' : Int)], σ ++ τ) | none => (.exit 0, [], σ ++ τ))
  | 0, x, 0, σ, h, hb, hx, hf => by omega
  | 0, x, f + 1, σ, h, hb, hx, hf => by
    rw [d_slices_IndexFunc_heap_block_l0_eq, b_slices_IndexFunc_heap_block_l0]
    have q : decide ((x : Int) < (c : Int)) = false := decide_eq_false (by omega)
    exact ⟨[], by simp only [q, cond_false, usedM, List.append_nil]⟩
  | n + 1, x, 0, σ, h, hb, hx, hf => by omega
  | n + 1, x, f + 1, σ, h, hb, hx, hf => by
    have ht := h.nt
    have q : decide ((x : Int) < (c : Int)) = true := decide_eq_true (by omega)
    have hbx : b + x < m.bls.length := by omega
    obtain ⟨l1, l2⟩ := h.ldB hbx
    have a1 : ldI .i64 σ i.bl (b * 2 + x * 2) = some (m.bls.getD (b + x) (0, 0)).1 := by rw [← l1]; congr 1; omega
    have a2 : ldI .i64 σ i.bl (b * 2 + x * 2 + 1) = some (m.bls.getD (b + x) (0, 0)).2 := by rw [← l2]; congr 1; omega
    obtain ⟨τ, hcall⟩ := hv (m.bls.getD (b + x) (0, 0)).1 (m.bls.getD (b + x) (0, 0)).2 σ
    have w1 : w64 ((x : Int) + 1) = ((x + 1 : Nat) : Int) := w64_in (by unfold inI; omega)
    obtain ⟨τ2, ih⟩ := Index_l0_to k c2 v hv n (x + 1) f (σ ++ τ) (h.app τ) hb (by omega) (by omega)
    rw [d_slices_IndexFunc_heap_block_l0_eq, b_slices_IndexFunc_heap_block_l0]
    simp only [q, cond_true]
    rw [if_pos (by omega)]
    simp only [Option.bind_some, Int.toNat_natCast, a1, a2, hcall, toB_bool, w1]
    rw [usedM]
    by_cases g1 : (m.bls.getD (b + x) (0, 0)).1 = 0
    · by_cases g2 : (m.bls.getD (b + x) (0, 0)).2 = 0
      · rw [if_pos ⟨g1, g2⟩]
        simp only [g1, g2, BEq.rfl, cond_true, Bool.not_true, cond_false]
        refine ⟨τ ++ τ2, ?_⟩
        rw [ih, List.append_assoc]
      · rw [if_neg (fun hh => g2 hh.2)]
        have p2 : ((m.bls.getD (b + x) (0, 0)).2 == 0) = false := by simpa using g2
        simp only [g1, BEq.rfl, cond_true, p2, Bool.not_false]
        exact ⟨τ, rfl⟩
    · rw [if_neg (fun hh => g1 hh.1)]
      have p1 : ((m.bls.getD (b + x) (0, 0)).1 == 0) = false := by simpa using g1
      simp only [p1, cond_false, Bool.not_false, cond_true]
      exact ⟨τ, rfl⟩

/-- Blocks from one on, claimed. -/
def clM (l : List (Int × Int)) (b : Nat) (e : Int × Int) : Nat → Nat → List (Int × Int)
  | 0, _ => l
  | n + 1, x => clM (l.set (b + x) e) b e n (x + 1)
theorem clM_length (b : Nat) (e : Int × Int) : ∀ (n x : Nat) (l : List (Int × Int)), (clM l b e n x).length = l.length
  | 0, x, l => rfl
  | n + 1, x, l => by rw [clM, clM_length b e n]; simp

theorem claim_l0_to (k : Nat) {b c : Nat} (e : Int × Int) (hb3 : Nat) : ∀ (n x f : Nat) (σ : AMem) (m : HM), HeapAt σ i m → hb3 ∉ i.l → (∃ T, σ[hb3]? = some (.cells [.int .i64 e.1, .int .i64 e.2] T true)) → b + c ≤ m.bls.length → x + n = c → n < f →
    ∃ σ', d_heap_Heap_claim_l0 k f (hptr i) (b : Int) hb3 (c : Int) (x : Int) σ = some (.exit 1, [], σ') ∧ HeapAt σ' i { m with bls := clM m.bls b e n x } ∧ Keeps i σ σ'
  | 0, x, 0, σ, m, h, hn, hbox, hb, hx, hf => by omega
  | 0, x, f + 1, σ, m, h, hn, hbox, hb, hx, hf => by
    rw [d_heap_Heap_claim_l0_eq, b_heap_Heap_claim_l0]
    have q : decide ((x : Int) < (c : Int)) = false := decide_eq_false (by omega)
    exact ⟨σ, by simp only [q, cond_false], h, Keeps.refl _ _⟩
  | n + 1, x, 0, σ, m, h, hn, hbox, hb, hx, hf => by omega
  | n + 1, x, f + 1, σ, m, h, hn, hbox, hb, hx, hf => by
    have ht := h.nt
    obtain ⟨T, hbox⟩ := hbox
    have q : decide ((x : Int) < (c : Int)) = true := decide_eq_true (by omega)
    obtain ⟨e1, h1⟩ := h.stB (b := b + x) (by omega) e.1 e.2
    have k1 : Keeps i σ (σ.set i.bl (.cells (blRow (m.bls.set (b + x) (e.1, e.2))) el_heap_Heap_blocks true)) := Keeps.set _ _ (by simp [HIds.l])
    obtain ⟨σ', e2, h2, k2⟩ := claim_l0_to k e hb3 n (x + 1) f _ _ h1 hn ⟨T, (k1.same _ (getElem?_lt hbox) hn).trans hbox⟩ (by show b + c ≤ (m.bls.set _ _).length; rw [List.length_set]; omega) (by omega) (by omega)
    refine ⟨σ', ?_, h2, k1.trans k2⟩
    have w1 : w64 ((x : Int) + 1) = ((x + 1 : Nat) : Int) := w64_in (by unfold inI; omega)
    have w2 : w64 ((b : Int) + (x : Int)) = ((b + x : Nat) : Int) := w64_in (by unfold inI; omega)
    have l0 : ldI .i64 σ hb3 0 = some e.1 := by simp [ldI, ld1, hbox, toI]
    have l1 : ldI .i64 σ hb3 1 = some e.2 := by simp [ldI, ld1, hbox, toI]
    rw [d_heap_Heap_claim_l0_eq, b_heap_Heap_claim_l0]
    simp only [q, cond_true, Option.bind_some, Nat.add_zero, Nat.zero_add, h.ld0, l0, l1, w1, w2]
    rw [if_pos (by omega)]
    simp only [Option.bind_some, Int.toNat_natCast, e1]
    exact e2

theorem slice_blocks (h : HeapAt σ i m) {a b : Nat} (hab : a < b) (hb : b ≤ m.bls.length) :
    sliceD ty_heap_block 2 (some ⟨i.bl, 0, none⟩, m.bls.length, m.bls.length) (some (.int .i64 (a : Int))) (some (.int .i64 (b : Int))) none σ = some (some ⟨i.bl, a * 2, none⟩, b - a, m.bls.length - a) := by
  have e1 : elemAt σ i.bl = some ty_heap_block := by simp only [elemAt, h.bl]
  have c1 : (0 ≤ (b : Int) ∧ (b : Int) ≤ ((m.bls.length : Nat) : Int)) := by omega
  have c2 : (0 ≤ (a : Int) ∧ (a : Int) ≤ ((b : Nat) : Int)) := by omega
  simp only [sliceD, Option.isSome_none, Bool.not_false, Bool.true_or, cond_true, bound, Int.toNat_natCast]
  rw [if_pos c1, if_pos c2, if_neg (by omega)]
  simp [e1]

def claimR (m : HM) (b c x y x' y' : Int) : Int × HM :=
  if 1 ≤ b ∧ b < (m.bls.length : Int) ∧ 1 ≤ c ∧ c ≤ (m.bls.length : Int) - b ∧ okSp y = true then
    (if usedM m.bls b.toNat c.toNat 0 = none then (0, { m with bls := (clM m.bls b.toNat (x', y') c.toNat 0).set b.toNat (x, y) }) else (8, m)) else (1, m)

theorem claim_goes (k : Nat) (hk : 5000 ≤ k) (h : HeapAt σ i m) (b c x y x' y' : Int) (hb : inI b) (hc : inI c) : Goes (d_heap_Heap_claim (k + 6) (hptr i) b c x y x' y' σ) σ i (claimR m b c x y x' y') := by
  unfold claimR
  have ht := h.nt
  have hnb := h.nb
  rw [d_heap_Heap_claim_eq, b_heap_Heap_claim]
  simp only [allocK]
  obtain ⟨μ0, hμ0⟩ : ∃ μ0, σ ++ [AObj.cells [Value.int .i64 x, .int .i64 y] ty_heap_block true] = μ0 := ⟨_, rfl⟩
  rw [hμ0]
  obtain ⟨μ1, hμ1⟩ : ∃ μ1, μ0 ++ [AObj.cells [Value.int .i64 x', .int .i64 y'] ty_heap_block true] = μ1 := ⟨_, rfl⟩
  rw [hμ1]
  have hE : μ1 = σ ++ [AObj.cells [Value.int .i64 x, .int .i64 y] ty_heap_block true, AObj.cells [Value.int .i64 x', .int .i64 y'] ty_heap_block true] := by rw [← hμ1, ← hμ0]; simp
  have h1 : HeapAt μ1 i m := by rw [hE]; exact h.app _
  have k1 : Keeps i σ μ1 := by rw [hE]; exact Keeps.app i σ _
  have hl0 : μ0.length = σ.length + 1 := by rw [← hμ0]; simp
  have hx0 : μ1[σ.length]? = some (AObj.cells [Value.int .i64 x, .int .i64 y] ty_heap_block true) := by rw [hE]; simp
  have hx1 : μ1[μ0.length]? = some (AObj.cells [Value.int .i64 x', .int .i64 y'] ty_heap_block true) := by rw [← hμ1]; simp
  have hn0 : σ.length ∉ i.l := fun hm => Nat.lt_irrefl _ (h.lt _ hm)
  have hn1 : μ0.length ∉ i.l := fun hm => by have := h.lt _ hm; omega
  have ly : ldI .i64 μ1 σ.length 1 = some y := by simp [ldI, ld1, hx0, toI]
  have fail : ∀ {r}, r = ((1 : Int), m) → Goes (some (Value.int .i64 1, μ1)) σ i r := fun hr => Goes.same h [AObj.cells [Value.int .i64 x, .int .i64 y] ty_heap_block true, AObj.cells [Value.int .i64 x', .int .i64 y'] ty_heap_block true] (by rw [hE]) hr
  simp only [hmade_to _ h1, there_h _ h1, Option.bind_some, toB_bool, Bool.not_true, cond_false, Nat.zero_add, Nat.add_zero, h1.ld0, ly]
  by_cases g0 : 1 ≤ b ∧ b < (m.bls.length : Int)
  rotate_left
  · simp only [decide_eq_false g0, Bool.not_false, cond_true, Option.bind_some]
    exact fail (if_neg (by omega))
  obtain ⟨n, rfl⟩ : ∃ n : Nat, b = (n : Int) := ⟨b.toNat, by omega⟩
  simp only [decide_eq_true g0, Bool.not_true, cond_false, Option.bind_some]
  by_cases g1 : c < 1
  · simp only [decide_eq_true g1, cond_true, Option.bind_some]
    exact fail (if_neg (by omega))
  have e1 : w64 (((m.bls.length : Nat) : Int) - (n : Int)) = ((m.bls.length - n : Nat) : Int) := by rw [w64_in (by unfold inI; omega)]; omega
  simp only [decide_eq_false g1, cond_false, Option.bind_some, h1.ld0, e1]
  by_cases g2 : c > ((m.bls.length - n : Nat) : Int)
  · simp only [decide_eq_true g2, cond_true, Option.bind_some]
    exact fail (if_neg (by omega))
  obtain ⟨w, rfl⟩ : ∃ w : Nat, c = (w : Int) := ⟨c.toNat, by omega⟩
  have hsp := space_to (k + 4) y μ1
  generalize okSp y = ok at hsp ⊢
  simp only [decide_eq_false g2, cond_false, Option.bind_some, ly, hsp, toB_bool]
  cases ok with
  | false =>
    simp only [Bool.not_false, cond_true]
    exact fail (if_neg (by simp))
  | true =>
    rw [if_pos ⟨g0.1, g0.2, by omega, by omega, rfl⟩, Int.toNat_natCast, Int.toNat_natCast]
    have e2 : w64 ((n : Int) + (w : Int)) = ((n + w : Nat) : Int) := w64_in (by unfold inI; omega)
    have hw : n + w ≤ m.bls.length := by omega
    simp only [Bool.not_true, cond_false, h1.ld0, e2, slice_blocks h1 (show n < n + w by omega) hw, Option.bind_some, Nat.add_sub_cancel_left]
    rw [d_slices_ContainsFunc_heap_block_eq, b_slices_ContainsFunc_heap_block, d_slices_IndexFunc_heap_block_eq, b_slices_IndexFunc_heap_block]
    have hv : ∀ x y σ, ∃ τ, d_callV_ii_t (k + 3) (.func (.func fn_heap_Heap_claim_c1) #[] #[]) [.agg #[.int .i64 x, .int .i64 y]] σ = some (.bool (!(bif x == 0 then y == 0 else false)), σ ++ τ) := by
      intro x y σ
      rw [callV_ii_t_heap_Heap_claim_c1]
      exact claim_c1_to (k + 2) x y σ
    obtain ⟨τ, hidx⟩ := Index_l0_to (k + 3) (b := n) (c := w) (m.bls.length - n) (.func (.func fn_heap_Heap_claim_c1) #[] #[]) hv w 0 (k + 3) μ1 h1 hw (by omega) (by omega)
    rw [show ((0 : Nat) : Int) = 0 from rfl] at hidx
    cases hu : usedM m.bls n w 0 with
    | some x0 =>
      rw [hu] at hidx
      simp only [hidx, Option.bind_some, if_true, u_i_eq, toI_int, toB_bool, reduceCtorEq, if_false]
      have q : decide ((x0 : Int) ≥ 0) = true := decide_eq_true (by omega)
      simp only [q, cond_true]
      exact Goes.same h ([AObj.cells [Value.int .i64 x, .int .i64 y] ty_heap_block true, AObj.cells [Value.int .i64 x', .int .i64 y'] ty_heap_block true] ++ τ) (code := 8) (by rw [hE, List.append_assoc]) rfl
    | none =>
      rw [hu] at hidx
      have q : decide ((-1 : Int) ≥ 0) = false := by decide
      simp only [hidx, Option.bind_some, if_true, toI_int, toB_bool, q, cond_false]
      have h2 := h1.app τ
      have k2 : Keeps i μ1 (μ1 ++ τ) := Keeps.app i μ1 τ
      have hy1 := (k2.same _ (getElem?_lt hx1) hn1).trans hx1
      obtain ⟨σ3, e3, h3, k3⟩ := claim_l0_to (k + 5) (b := n) (c := w) (x', y') μ0.length w 0 (k + 5) (μ1 ++ τ) m h2 hn1 ⟨_, hy1⟩ hw (by omega) (by omega)
      rw [show ((0 : Nat) : Int) = 0 from rfl] at e3
      have hy0 := (k3.same _ (getElem?_lt ((k2.same _ (getElem?_lt hx0) hn0).trans hx0)) hn0).trans ((k2.same _ (getElem?_lt hx0) hn0).trans hx0)
      have l0 : ldI .i64 σ3 σ.length 0 = some x := by simp [ldI, ld1, hy0, toI]
      have l1 : ldI .i64 σ3 σ.length 1 = some y := by simp [ldI, ld1, hy0, toI]
      have hlen : (clM m.bls n (x', y') w 0).length = m.bls.length := clM_length _ _ _ _ _
      obtain ⟨e4, h4⟩ := h3.stB (b := n) (by show n < (clM _ _ _ _ _).length; omega) x y
      simp only [e3, Option.bind_some, if_true, h3.ld0, l0, l1]
      rw [if_pos (by show 0 ≤ (n : Int) ∧ (n : Int) < (((clM m.bls n (x', y') w 0).length : Nat) : Int); omega)]
      simp only [Option.bind_some, Nat.zero_add, Int.toNat_natCast, e4]
      exact ⟨_, rfl, h4, ((k1.trans k2).trans k3).trans (Keeps.set _ _ (by simp [HIds.l]))⟩

theorem Claim_goes (k : Nat) (hk : 5000 ≤ k) (h : HeapAt σ i m) (b s : Int) (hb : inI b) : Goes (d_heap_Heap_Claim (k + 7) (hptr i) b s σ) σ i (claimR m b 1 1 s 0 0) := by
  refine (claim_goes k hk h b 1 1 s 0 0 hb (by unfold inI; decide)).to fun σ' e => ?_
  rw [d_heap_Heap_Claim_eq, b_heap_Heap_Claim, e]
  simp only [Option.bind_some, toI_int]
theorem ClaimLarge_goes (k : Nat) (hk : 5000 ≤ k) (h : HeapAt σ i m) (b c s : Int) (hb : inI b) (hc : inI c) : Goes (d_heap_Heap_ClaimLarge (k + 7) (hptr i) b c s σ) σ i (claimR m b c 2 s 3 s) := by
  refine (claim_goes k hk h b c 2 s 3 s hb hc).to fun σ' e => ?_
  rw [d_heap_Heap_ClaimLarge_eq, b_heap_Heap_ClaimLarge, e]
  simp only [Option.bind_some, toI_int]

end Go.Proofs.Ytlaplcglpnlieaa
