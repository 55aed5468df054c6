/-
  PRINTED BY A PROGRAM OF THIS SESSION'S OWN (gen2.py): the functions that the examples reach, as definitions.
-/
import Derived.Test.YtilefhlamdiomaaGreatSF1
set_option maxRecDepth 100000
set_option linter.unusedVariables false
set_option linter.unusedSimpArgs false
set_option linter.unusedSectionVars false
namespace Go.Proofs.YtilefhlamdiomaaGreat
open Go Go.AX
section
variable [Quiet] [Kn]
theorem is_f {β : Type} {d s : Nat → β} (h0 : d 0 = s 0) (h : ∀ k, d (k + 1) = s (k + 1)) : d = s := funext fun k => match k with
  | 0 => h0
  | k + 1 => h k
theorem is_l {β : Type} {d s : Nat → Nat → β} (h0 : ∀ k, d k 0 = s k 0) (h : ∀ k n, d k n = s k n → d k (n + 1) = s k (n + 1)) : d = s := by
  funext k n; induction n with
  | zero => exact h0 k
  | succ n ih => exact h k n ih

def Y_pnniii (f : M_pnniii) : M_pnniii := fun x0 x1 x2 x3 x4 x5 σ => fP x0 fun x0 => fN x1 fun x1 => fN x2 fun x2 => fI x3 fun x3 => fI x4 fun x4 => fI x5 fun x5 => fL σ fun σ => f x0 x1 x2 x3 x4 x5 σ
theorem Y_pnniii_eq (f : M_pnniii) : f = Y_pnniii f := by funext _ _ _ _ _ _ _; simp only [Y_pnniii, strA]

noncomputable def s_slices_Index_int_l0 (k n : Nat) : M_pnniii := Nat.rec (fun _ _ _ _ _ _ _ => none) (fun _ ih => Y_pnniii (b_slices_Index_int_l0 k  ih)) n
theorem slices_Index_int_l0_is : d_slices_Index_int_l0 = s_slices_Index_int_l0 :=
  is_l (fun k => by simp only [d_slices_Index_int_l0, hide_eq]; rfl) fun k n ih => by rw [d_slices_Index_int_l0_eq, ih]; exact Y_pnniii_eq _

def W_li (f : T_li) : T_li := fun x0 x1 σ => fS x0 fun x0 => fI x1 fun x1 => fL σ fun σ => f x0 x1 σ
theorem W_li_eq (f : T_li) : f = W_li f := by funext _ _ _; simp only [W_li, strA]

noncomputable def s_slices_Index_int : Nat → T_li
  | 0 => fun _ _ _ => none
  | k + 1 => W_li (b_slices_Index_int k (s_slices_Index_int_l0 k))
theorem slices_Index_int_is : d_slices_Index_int = s_slices_Index_int :=
  is_f (by simp only [d_slices_Index_int, hide_eq]; rfl) fun k => by rw [d_slices_Index_int_eq, slices_Index_int_l0_is]; exact W_li_eq _

noncomputable def s_slices_Contains_int : Nat → T_li
  | 0 => fun _ _ _ => none
  | k + 1 => W_li (b_slices_Contains_int k (s_slices_Index_int k))
theorem slices_Contains_int_is : d_slices_Contains_int = s_slices_Contains_int :=
  is_f (by simp only [d_slices_Contains_int, hide_eq]; rfl) fun k => by rw [d_slices_Contains_int_eq, slices_Index_int_is]; exact W_li_eq _

def W_ii (f : T_ii) : T_ii := fun x0 x1 σ => fI x0 fun x0 => fI x1 fun x1 => fL σ fun σ => f x0 x1 σ
theorem W_ii_eq (f : T_ii) : f = W_ii f := by funext _ _ _; simp only [W_ii, strA]

noncomputable def s_side_New : Nat → T_ii
  | 0 => fun _ _ _ => none
  | k + 1 => W_ii (b_side_New k (s_slices_Contains_int k))
theorem side_New_is : d_side_New = s_side_New :=
  is_f (by simp only [d_side_New, hide_eq]; rfl) fun k => by rw [d_side_New_eq, slices_Contains_int_is]; exact W_ii_eq _

def W_i (f : T_i) : T_i := fun x0 σ => fI x0 fun x0 => fL σ fun σ => f x0 σ
theorem W_i_eq (f : T_i) : f = W_i f := by funext _ _; simp only [W_i, strA]

noncomputable def s_heap_New : Nat → T_i
  | 0 => fun _ _ => none
  | k + 1 => W_i (b_heap_New k (s_side_New k))
theorem heap_New_is : d_heap_New = s_heap_New :=
  is_f (by simp only [d_heap_New, hide_eq]; rfl) fun k => by rw [d_heap_New_eq, side_New_is]; exact W_i_eq _

noncomputable def s_roots_New : Nat → T_i
  | 0 => fun _ _ => none
  | k + 1 => W_i (b_roots_New k )
theorem roots_New_is : d_roots_New = s_roots_New :=
  is_f (by simp only [d_roots_New, hide_eq]; rfl) fun k => by rw [d_roots_New_eq]; exact W_i_eq _

def W_p (f : T_p) : T_p := fun x0 σ => fP x0 fun x0 => fL σ fun σ => f x0 σ
theorem W_p_eq (f : T_p) : f = W_p f := by funext _ _; simp only [W_p, strA]

noncomputable def s_heap_Heap_made : Nat → T_p
  | 0 => fun _ _ => none
  | k + 1 => W_p (b_heap_Heap_made k )
theorem heap_Heap_made_is : d_heap_Heap_made = s_heap_Heap_made :=
  is_f (by simp only [d_heap_Heap_made, hide_eq]; rfl) fun k => by rw [d_heap_Heap_made_eq]; exact W_p_eq _

noncomputable def s_heap_Heap_Blocks : Nat → T_p
  | 0 => fun _ _ => none
  | k + 1 => W_p (b_heap_Heap_Blocks k (s_heap_Heap_made k))
theorem heap_Heap_Blocks_is : d_heap_Heap_Blocks = s_heap_Heap_Blocks :=
  is_f (by simp only [d_heap_Heap_Blocks, hide_eq]; rfl) fun k => by rw [d_heap_Heap_Blocks_eq, heap_Heap_made_is]; exact W_p_eq _

noncomputable def s_roots_Roots_made : Nat → T_p
  | 0 => fun _ _ => none
  | k + 1 => W_p (b_roots_Roots_made k )
theorem roots_Roots_made_is : d_roots_Roots_made = s_roots_Roots_made :=
  is_f (by simp only [d_roots_Roots_made, hide_eq]; rfl) fun k => by rw [d_roots_Roots_made_eq]; exact W_p_eq _

noncomputable def s_roots_Roots_Mutators : Nat → T_p
  | 0 => fun _ _ => none
  | k + 1 => W_p (b_roots_Roots_Mutators k (s_roots_Roots_made k))
theorem roots_Roots_Mutators_is : d_roots_Roots_Mutators = s_roots_Roots_Mutators :=
  is_f (by simp only [d_roots_Roots_Mutators, hide_eq]; rfl) fun k => by rw [d_roots_Roots_Mutators_eq, roots_Roots_made_is]; exact W_p_eq _

def W_pp (f : T_pp) : T_pp := fun x0 x1 σ => fP x0 fun x0 => fP x1 fun x1 => fL σ fun σ => f x0 x1 σ
theorem W_pp_eq (f : T_pp) : f = W_pp f := by funext _ _ _; simp only [W_pp, strA]

noncomputable def s_trace_given : Nat → T_pp
  | 0 => fun _ _ _ => none
  | k + 1 => W_pp (b_trace_given k (s_heap_Heap_Blocks k) (s_roots_Roots_Mutators k))
theorem trace_given_is : d_trace_given = s_trace_given :=
  is_f (by simp only [d_trace_given, hide_eq]; rfl) fun k => by rw [d_trace_given_eq, heap_Heap_Blocks_is, roots_Roots_Mutators_is]; exact W_pp_eq _

noncomputable def s_trace_table : Nat → T_p
  | 0 => fun _ _ => none
  | k + 1 => W_p (b_trace_table k (s_heap_Heap_Blocks k) (s_side_New k))
theorem trace_table_is : d_trace_table = s_trace_table :=
  is_f (by simp only [d_trace_table, hide_eq]; rfl) fun k => by rw [d_trace_table_eq, heap_Heap_Blocks_is, side_New_is]; exact W_p_eq _

noncomputable def s_roots_Roots_all : Nat → T_p
  | 0 => fun _ _ => none
  | k + 1 => W_p (b_roots_Roots_all k )
theorem roots_Roots_all_is : d_roots_Roots_all = s_roots_Roots_all :=
  is_f (by simp only [d_roots_Roots_all, hide_eq]; rfl) fun k => by rw [d_roots_Roots_all_eq]; exact W_p_eq _

noncomputable def s_callN_iiip_t (k : Nat) (n : FuncId) (l : List Value) (σ : AMem) : Option (Value × AMem) :=
  fn P (XK Kn.b) H k n l σ

theorem callN_iiip_t_is (k : Nat) (n : FuncId) (l : List Value) (σ : AMem) : fn P (XK Kn.b) H k n l σ = s_callN_iiip_t k n l σ := by
  unfold s_callN_iiip_t
  rfl

noncomputable def s_roots_Roots_Places_r (k : Nat) (h : Nat) (qh0 : Nat) (z0_0 : Int) (z0_1 : Int) (z0_2 : Int) (z1 : Option Addr) (σ : AMem) : RV1 :=
  fN h fun h => fN qh0 fun qh0 => fI z0_0 fun z0_0 => fI z0_1 fun z0_1 => fI z0_2 fun z0_2 => fP z1 fun z1 => fL σ fun σ => b_roots_Roots_Places_r k  h qh0 z0_0 z0_1 z0_2 z1 σ

theorem roots_Roots_Places_r_is (k : Nat) (h : Nat) (qh0 : Nat) (z0_0 : Int) (z0_1 : Int) (z0_2 : Int) (z1 : Option Addr) (σ : AMem) : b_roots_Roots_Places_r k  h qh0 z0_0 z0_1 z0_2 z1 σ = s_roots_Roots_Places_r k h qh0 z0_0 z0_1 z0_2 z1 σ := by
  simp only [s_roots_Roots_Places_r, strA]

noncomputable def s_roots_Roots_Leads_r (k : Nat) (h : Nat) (qh0 : Nat) (z0_0 : Int) (z0_1 : Int) (z0_2 : Int) (z1 : Option Addr) (σ : AMem) : RV1 :=
  fN h fun h => fN qh0 fun qh0 => fI z0_0 fun z0_0 => fI z0_1 fun z0_1 => fI z0_2 fun z0_2 => fP z1 fun z1 => fL σ fun σ => b_roots_Roots_Leads_r k (s_slices_Contains_int k) h qh0 z0_0 z0_1 z0_2 z1 σ

theorem roots_Roots_Leads_r_is (k : Nat) (h : Nat) (qh0 : Nat) (z0_0 : Int) (z0_1 : Int) (z0_2 : Int) (z1 : Option Addr) (σ : AMem) : b_roots_Roots_Leads_r k (d_slices_Contains_int k) h qh0 z0_0 z0_1 z0_2 z1 σ = s_roots_Roots_Leads_r k h qh0 z0_0 z0_1 z0_2 z1 σ := by
  simp only [s_roots_Roots_Leads_r, strA, slices_Contains_int_is]

noncomputable def s_callY_iiip_t (k : Nat) (h : Nat) (args : List Value) (σ : AMem) : RV1 := match k with
  | 0 => none
  | k + 1 => match σ[h]? with
    | some (.loop f .ready regs) =>
      if f = 54 then (match regs, args with
        | [none, none, none, some (.pointer (some ⟨y1, 0, none⟩)), none, none, none, none, none, none, none, none, none, none, none, none, none], [.agg ⟨[.int .i64 y2, .int .i64 y3, .int .i64 y4]⟩, .pointer y5] => s_roots_Roots_Places_r k h y1 y2 y3 y4 y5 σ
        | _, _ => fn P (XK Kn.b) H (k + 1) YF (.pointer (some ⟨h, 0, none⟩) :: args) σ) else
      if f = 60 then (match regs, args with
        | [none, none, none, some (.pointer (some ⟨y1, 0, none⟩)), none, none, none, none, none, none, none, none, none, none, none, none, none, none, none, none, none, none, none, none, none, none], [.agg ⟨[.int .i64 y2, .int .i64 y3, .int .i64 y4]⟩, .pointer y5] => s_roots_Roots_Leads_r k h y1 y2 y3 y4 y5 σ
        | _, _ => fn P (XK Kn.b) H (k + 1) YF (.pointer (some ⟨h, 0, none⟩) :: args) σ) else
      fn P (XK Kn.b) H (k + 1) YF (.pointer (some ⟨h, 0, none⟩) :: args) σ
    | _ => fn P (XK Kn.b) H (k + 1) YF (.pointer (some ⟨h, 0, none⟩) :: args) σ

theorem callV_iiip_t_yv (k h : Nat) (args : List Value) (σ : AMem) : d_callV_iiip_t k (.func (.yield h) #[] #[]) args σ = fn P (XK Kn.b) H k YF (.pointer (some ⟨h, 0, none⟩) :: args) σ := by
  simp only [d_callV_iiip_t, hide_eq]; rfl

theorem callY_iiip_t_is (k : Nat) (h : Nat) (args : List Value) (σ : AMem) : fn P (XK Kn.b) H k YF (.pointer (some ⟨h, 0, none⟩) :: args) σ = s_callY_iiip_t k h args σ := by
  cases k with
  | zero => rfl
  | succ k =>
    unfold s_callY_iiip_t
    dsimp only
    split
    rotate_left
    · rfl
    rename_i hσ
    split
    · rename_i hn; subst hn
      split
      · exact ((callV_iiip_t_yv _ _ _ σ).symm.trans (callV_iiip_t_roots_Roots_Places_r k _ _ _ _ _ _ σ hσ)).trans (roots_Roots_Places_r_is k _ _ _ _ _ _ σ)
      · rfl
    split
    · rename_i hn; subst hn
      split
      · exact ((callV_iiip_t_yv _ _ _ σ).symm.trans (callV_iiip_t_roots_Roots_Leads_r k _ _ _ _ _ _ σ hσ)).trans (roots_Roots_Leads_r_is k _ _ _ _ _ _ σ)
      · rfl
    rfl

noncomputable def s_callV_iiip_t (k : Nat) (f : Value) (args : List Value) (σ : AMem) : Option (Value × AMem) := match f with
  | .func (.func n) first cap => bif Nat.beq n YF then none else s_callN_iiip_t k n (first.toList ++ args ++ cap.toList) σ
  | .func (.yield h) _ _ => s_callY_iiip_t k h args σ
  | .func (.method nm) first _ => (match first.toList ++ args with
    | .iface t v :: rest => (methodF P t nm).bind fun n => bif Nat.beq n YF then none else s_callN_iiip_t k n (v :: rest) σ
    | _ => none)
  | _ => none

theorem callV_iiip_t_is : d_callV_iiip_t = s_callV_iiip_t := by
  funext k f args σ
  simp only [d_callV_iiip_t, hide_eq]
  unfold callVal s_callV_iiip_t
  simp only [callY_iiip_t_is]
  simp only [callN_iiip_t_is]
  rfl

def Y_vipnnii (f : M_vipnnii) : M_vipnnii := fun x0 x1 x2 x3 x4 x5 x6 σ => fI x1 fun x1 => fP x2 fun x2 => fN x3 fun x3 => fN x4 fun x4 => fI x5 fun x5 => fI x6 fun x6 => fL σ fun σ => f x0 x1 x2 x3 x4 x5 x6 σ
theorem Y_vipnnii_eq (f : M_vipnnii) : f = Y_vipnnii f := by funext _ _ _ _ _ _ _ _; simp only [Y_vipnnii, strA]

noncomputable def s_roots_Roots_all_c1_l1 (k n : Nat) : M_vipnnii := Nat.rec (fun _ _ _ _ _ _ _ _ => none) (fun _ ih => Y_vipnnii (b_roots_Roots_all_c1_l1 k (s_callV_iiip_t k) ih)) n
theorem roots_Roots_all_c1_l1_is : d_roots_Roots_all_c1_l1 = s_roots_Roots_all_c1_l1 :=
  is_l (fun k => by simp only [d_roots_Roots_all_c1_l1, hide_eq]; rfl) fun k n ih => by rw [d_roots_Roots_all_c1_l1_eq, callV_iiip_t_is, ih]; exact Y_vipnnii_eq _

def Y_vnii (f : M_vnii) : M_vnii := fun x0 x1 x2 x3 σ => fN x1 fun x1 => fI x2 fun x2 => fI x3 fun x3 => fL σ fun σ => f x0 x1 x2 x3 σ
theorem Y_vnii_eq (f : M_vnii) : f = Y_vnii f := by funext _ _ _ _ _; simp only [Y_vnii, strA]

noncomputable def s_roots_Roots_all_c1_l0 (k n : Nat) : M_vnii := Nat.rec (fun _ _ _ _ _ => none) (fun _ ih => Y_vnii (b_roots_Roots_all_c1_l0 k (s_roots_Roots_all_c1_l1 k) ih)) n
theorem roots_Roots_all_c1_l0_is : d_roots_Roots_all_c1_l0 = s_roots_Roots_all_c1_l0 :=
  is_l (fun k => by simp only [d_roots_Roots_all_c1_l0, hide_eq]; rfl) fun k n ih => by rw [d_roots_Roots_all_c1_l0_eq, roots_Roots_all_c1_l1_is, ih]; exact Y_vnii_eq _

def W_vp (f : T_vp) : T_vp := fun x0 x1 σ => fP x1 fun x1 => fL σ fun σ => f x0 x1 σ
theorem W_vp_eq (f : T_vp) : f = W_vp f := by funext _ _ _; simp only [W_vp, strA]

noncomputable def s_roots_Roots_all_c1 : Nat → T_vp
  | 0 => fun _ _ _ => none
  | k + 1 => W_vp (b_roots_Roots_all_c1 k (s_roots_Roots_all_c1_l0 k))
theorem roots_Roots_all_c1_is : d_roots_Roots_all_c1 = s_roots_Roots_all_c1 :=
  is_f (by simp only [d_roots_Roots_all_c1, hide_eq]; rfl) fun k => by rw [d_roots_Roots_all_c1_eq, roots_Roots_all_c1_l0_is]; exact W_vp_eq _

theorem roots_Roots_all_c1_raw (k : Nat) (x0 : Value) (c0 : Option Addr) (σ : AMem) : fn P (XK Kn.b) H k 187 [x0, .pointer c0] σ = d_roots_Roots_all_c1 k x0 c0 σ := by
  simp only [d_roots_Roots_all_c1, hide_eq]

noncomputable def s_callN_f_0 (k : Nat) (n : FuncId) (l : List Value) (σ : AMem) : Option (Value × AMem) :=
  if n = 187 then (match l with
    | [y1, .pointer y2] => s_roots_Roots_all_c1 k y1 y2 σ
    | l => fn P (XK Kn.b) H k 187 l σ) else
  fn P (XK Kn.b) H k n l σ

theorem callN_f_0_is (k : Nat) (n : FuncId) (l : List Value) (σ : AMem) : fn P (XK Kn.b) H k n l σ = s_callN_f_0 k n l σ := by
  unfold s_callN_f_0
  split
  · rename_i hn; subst hn
    split
    · rw [roots_Roots_all_c1_raw, roots_Roots_all_c1_is]
    · rfl
  rfl

noncomputable def s_callV_f_0 (k : Nat) (f : Value) (args : List Value) (σ : AMem) : Option (Value × AMem) := match f with
  | .func (.func n) first cap => bif Nat.beq n YF then none else s_callN_f_0 k n (first.toList ++ args ++ cap.toList) σ
  | .func (.yield h) _ _ => fn P (XK Kn.b) H k YF (.pointer (some ⟨h, 0, none⟩) :: args) σ
  | .func (.method nm) first _ => (match first.toList ++ args with
    | .iface t v :: rest => (methodF P t nm).bind fun n => bif Nat.beq n YF then none else s_callN_f_0 k n (v :: rest) σ
    | _ => none)
  | _ => none

theorem callV_f_0_is : d_callV_f_0 = s_callV_f_0 := by
  funext k f args σ
  simp only [d_callV_f_0, hide_eq]
  unfold callVal s_callV_f_0
  simp only [callN_f_0_is]
  rfl

noncomputable def s_roots_Roots_Places : Nat → T_p
  | 0 => fun _ _ => none
  | k + 1 => W_p (b_roots_Roots_Places k (s_callV_f_0 k) (s_roots_Roots_all k) (s_roots_Roots_made k))
theorem roots_Roots_Places_is : d_roots_Roots_Places = s_roots_Roots_Places :=
  is_f (by simp only [d_roots_Roots_Places, hide_eq]; rfl) fun k => by rw [d_roots_Roots_Places_eq, callV_f_0_is, roots_Roots_all_is, roots_Roots_made_is]; exact W_p_eq _

def W_lp (f : T_lp) : T_lp := fun x0 x1 σ => fS x0 fun x0 => fP x1 fun x1 => fL σ fun σ => f x0 x1 σ
theorem W_lp_eq (f : T_lp) : f = W_lp f := by funext _ _ _; simp only [W_lp, strA]

noncomputable def s_roots_Roots_at_c1 : Nat → T_lp
  | 0 => fun _ _ _ => none
  | k + 1 => W_lp (b_roots_Roots_at_c1 k )
theorem roots_Roots_at_c1_is : d_roots_Roots_at_c1 = s_roots_Roots_at_c1 :=
  is_f (by simp only [d_roots_Roots_at_c1, hide_eq]; rfl) fun k => by rw [d_roots_Roots_at_c1_eq]; exact W_lp_eq _

def W_piii (f : T_piii) : T_piii := fun x0 x1 x2 x3 σ => fP x0 fun x0 => fI x1 fun x1 => fI x2 fun x2 => fI x3 fun x3 => fL σ fun σ => f x0 x1 x2 x3 σ
theorem W_piii_eq (f : T_piii) : f = W_piii f := by funext _ _ _ _ _; simp only [W_piii, strA]

noncomputable def s_roots_Roots_at : Nat → T_piii
  | 0 => fun _ _ _ _ _ => none
  | k + 1 => W_piii (b_roots_Roots_at k (s_roots_Roots_at_c1 k))
theorem roots_Roots_at_is : d_roots_Roots_at = s_roots_Roots_at :=
  is_f (by simp only [d_roots_Roots_at, hide_eq]; rfl) fun k => by rw [d_roots_Roots_at_eq, roots_Roots_at_c1_is]; exact W_piii_eq _

noncomputable def s_roots_Roots_place : Nat → T_piii
  | 0 => fun _ _ _ _ _ => none
  | k + 1 => W_piii (b_roots_Roots_place k (s_roots_Roots_at k) (s_roots_Roots_made k))
theorem roots_Roots_place_is : d_roots_Roots_place = s_roots_Roots_place :=
  is_f (by simp only [d_roots_Roots_place, hide_eq]; rfl) fun k => by rw [d_roots_Roots_place_eq, roots_Roots_at_is, roots_Roots_made_is]; exact W_piii_eq _

noncomputable def s_roots_Roots_Get : Nat → T_piii
  | 0 => fun _ _ _ _ _ => none
  | k + 1 => W_piii (b_roots_Roots_Get k (s_roots_Roots_place k))
theorem roots_Roots_Get_is : d_roots_Roots_Get = s_roots_Roots_Get :=
  is_f (by simp only [d_roots_Roots_Get, hide_eq]; rfl) fun k => by rw [d_roots_Roots_Get_eq, roots_Roots_place_is]; exact W_piii_eq _

def W_pi (f : T_pi) : T_pi := fun x0 x1 σ => fP x0 fun x0 => fI x1 fun x1 => fL σ fun σ => f x0 x1 σ
theorem W_pi_eq (f : T_pi) : f = W_pi f := by funext _ _ _; simp only [W_pi, strA]

noncomputable def s___trace_line_int__add : Nat → T_pi
  | 0 => fun _ _ _ => none
  | k + 1 => W_pi (b___trace_line_int__add k )
theorem __trace_line_int__add_is : d___trace_line_int__add = s___trace_line_int__add :=
  is_f (by simp only [d___trace_line_int__add, hide_eq]; rfl) fun k => by rw [d___trace_line_int__add_eq]; exact W_pi_eq _

noncomputable def s_side_Table_made : Nat → T_p
  | 0 => fun _ _ => none
  | k + 1 => W_p (b_side_Table_made k )
theorem side_Table_made_is : d_side_Table_made = s_side_Table_made :=
  is_f (by simp only [d_side_Table_made, hide_eq]; rfl) fun k => by rw [d_side_Table_made_eq]; exact W_p_eq _

noncomputable def s_side_Table_there : Nat → T_pi
  | 0 => fun _ _ _ => none
  | k + 1 => W_pi (b_side_Table_there k (s_side_Table_made k))
theorem side_Table_there_is : d_side_Table_there = s_side_Table_there :=
  is_f (by simp only [d_side_Table_there, hide_eq]; rfl) fun k => by rw [d_side_Table_there_eq, side_Table_made_is]; exact W_pi_eq _

noncomputable def s_side_Table_most : Nat → T_p
  | 0 => fun _ _ => none
  | k + 1 => W_p (b_side_Table_most k )
theorem side_Table_most_is : d_side_Table_most = s_side_Table_most :=
  is_f (by simp only [d_side_Table_most, hide_eq]; rfl) fun k => by rw [d_side_Table_most_eq]; exact W_p_eq _

noncomputable def s_side_Table_get : Nat → T_pi
  | 0 => fun _ _ _ => none
  | k + 1 => W_pi (b_side_Table_get k (s_side_Table_most k))
theorem side_Table_get_is : d_side_Table_get = s_side_Table_get :=
  is_f (by simp only [d_side_Table_get, hide_eq]; rfl) fun k => by rw [d_side_Table_get_eq, side_Table_most_is]; exact W_pi_eq _

noncomputable def s_side_Table_Get : Nat → T_pi
  | 0 => fun _ _ _ => none
  | k + 1 => W_pi (b_side_Table_Get k (s_side_Table_get k) (s_side_Table_there k))
theorem side_Table_Get_is : d_side_Table_Get = s_side_Table_Get :=
  is_f (by simp only [d_side_Table_Get, hide_eq]; rfl) fun k => by rw [d_side_Table_Get_eq, side_Table_get_is, side_Table_there_is]; exact W_pi_eq _

noncomputable def s_heap_Heap_Has : Nat → T_pi
  | 0 => fun _ _ _ => none
  | k + 1 => W_pi (b_heap_Heap_Has k (s_heap_Heap_made k) (s_side_Table_Get k))
theorem heap_Heap_Has_is : d_heap_Heap_Has = s_heap_Heap_Has :=
  is_f (by simp only [d_heap_Heap_Has, hide_eq]; rfl) fun k => by rw [d_heap_Heap_Has_eq, heap_Heap_made_is, side_Table_Get_is]; exact W_pi_eq _

def W_ppi (f : T_ppi) : T_ppi := fun x0 x1 x2 σ => fP x0 fun x0 => fP x1 fun x1 => fI x2 fun x2 => fL σ fun σ => f x0 x1 x2 σ
theorem W_ppi_eq (f : T_ppi) : f = W_ppi f := by funext _ _ _ _; simp only [W_ppi, strA]

noncomputable def s_trace_marked : Nat → T_ppi
  | 0 => fun _ _ _ _ => none
  | k + 1 => W_ppi (b_trace_marked k (s_heap_Heap_Has k) (s_side_Table_Get k))
theorem trace_marked_is : d_trace_marked = s_trace_marked :=
  is_f (by simp only [d_trace_marked, hide_eq]; rfl) fun k => by rw [d_trace_marked_eq, heap_Heap_Has_is, side_Table_Get_is]; exact W_ppi_eq _

def W_ipp (f : T_ipp) : T_ipp := fun x0 x1 x2 σ => fI x0 fun x0 => fP x1 fun x1 => fP x2 fun x2 => fL σ fun σ => f x0 x1 x2 σ
theorem W_ipp_eq (f : T_ipp) : f = W_ipp f := by funext _ _ _ _; simp only [W_ipp, strA]

noncomputable def s_trace_all_c1 : Nat → T_ipp
  | 0 => fun _ _ _ _ => none
  | k + 1 => W_ipp (b_trace_all_c1 k (s_trace_marked k))
theorem trace_all_c1_is : d_trace_all_c1 = s_trace_all_c1 :=
  is_f (by simp only [d_trace_all_c1, hide_eq]; rfl) fun k => by rw [d_trace_all_c1_eq, trace_marked_is]; exact W_ipp_eq _

theorem trace_all_c1_raw (k : Nat) (x0 : Int) (c0 : Option Addr) (c1 : Option Addr) (σ : AMem) : fn P (XK Kn.b) H k 134 [.int .i64 x0, .pointer c0, .pointer c1] σ = d_trace_all_c1 k x0 c0 c1 σ := by
  simp only [d_trace_all_c1, hide_eq]

def W_ip (f : T_ip) : T_ip := fun x0 x1 σ => fI x0 fun x0 => fP x1 fun x1 => fL σ fun σ => f x0 x1 σ
theorem W_ip_eq (f : T_ip) : f = W_ip f := by funext _ _ _; simp only [W_ip, strA]

noncomputable def s_sound_Is_c1 : Nat → T_ip
  | 0 => fun _ _ _ => none
  | k + 1 => W_ip (b_sound_Is_c1 k (s_heap_Heap_Has k))
theorem sound_Is_c1_is : d_sound_Is_c1 = s_sound_Is_c1 :=
  is_f (by simp only [d_sound_Is_c1, hide_eq]; rfl) fun k => by rw [d_sound_Is_c1_eq, heap_Heap_Has_is]; exact W_ip_eq _

theorem sound_Is_c1_raw (k : Nat) (x0 : Int) (c0 : Option Addr) (σ : AMem) : fn P (XK Kn.b) H k 172 [.int .i64 x0, .pointer c0] σ = d_sound_Is_c1 k x0 c0 σ := by
  simp only [d_sound_Is_c1, hide_eq]

noncomputable def s_sweep_Sweeper_sweep_c1 : Nat → T_ip
  | 0 => fun _ _ _ => none
  | k + 1 => W_ip (b_sweep_Sweeper_sweep_c1 k )
theorem sweep_Sweeper_sweep_c1_is : d_sweep_Sweeper_sweep_c1 = s_sweep_Sweeper_sweep_c1 :=
  is_f (by simp only [d_sweep_Sweeper_sweep_c1, hide_eq]; rfl) fun k => by rw [d_sweep_Sweeper_sweep_c1_eq]; exact W_ip_eq _

theorem sweep_Sweeper_sweep_c1_raw (k : Nat) (x0 : Int) (c0 : Option Addr) (σ : AMem) : fn P (XK Kn.b) H k 195 [.int .i64 x0, .pointer c0] σ = d_sweep_Sweeper_sweep_c1 k x0 c0 σ := by
  simp only [d_sweep_Sweeper_sweep_c1, hide_eq]

noncomputable def s_side_Table_value : Nat → T_pi
  | 0 => fun _ _ _ => none
  | k + 1 => W_pi (b_side_Table_value k (s_side_Table_most k))
theorem side_Table_value_is : d_side_Table_value = s_side_Table_value :=
  is_f (by simp only [d_side_Table_value, hide_eq]; rfl) fun k => by rw [d_side_Table_value_eq, side_Table_most_is]; exact W_pi_eq _

noncomputable def s_side_Table_check_c1 : Nat → T_ip
  | 0 => fun _ _ _ => none
  | k + 1 => W_ip (b_side_Table_check_c1 k (s_side_Table_value k))
theorem side_Table_check_c1_is : d_side_Table_check_c1 = s_side_Table_check_c1 :=
  is_f (by simp only [d_side_Table_check_c1, hide_eq]; rfl) fun k => by rw [d_side_Table_check_c1_eq, side_Table_value_is]; exact W_ip_eq _

theorem side_Table_check_c1_raw (k : Nat) (x0 : Int) (c0 : Option Addr) (σ : AMem) : fn P (XK Kn.b) H k 237 [.int .i64 x0, .pointer c0] σ = d_side_Table_check_c1 k x0 c0 σ := by
  simp only [d_side_Table_check_c1, hide_eq]

noncomputable def s_callN_i_t (k : Nat) (n : FuncId) (l : List Value) (σ : AMem) : Option (Value × AMem) :=
  if n = 134 then (match l with
    | [.int .i64 y1, .pointer y2, .pointer y3] => s_trace_all_c1 k y1 y2 y3 σ
    | l => fn P (XK Kn.b) H k 134 l σ) else
  if n = 172 then (match l with
    | [.int .i64 y1, .pointer y2] => s_sound_Is_c1 k y1 y2 σ
    | l => fn P (XK Kn.b) H k 172 l σ) else
  if n = 195 then (match l with
    | [.int .i64 y1, .pointer y2] => s_sweep_Sweeper_sweep_c1 k y1 y2 σ
    | l => fn P (XK Kn.b) H k 195 l σ) else
  if n = 237 then (match l with
    | [.int .i64 y1, .pointer y2] => s_side_Table_check_c1 k y1 y2 σ
    | l => fn P (XK Kn.b) H k 237 l σ) else
  fn P (XK Kn.b) H k n l σ

theorem callN_i_t_is (k : Nat) (n : FuncId) (l : List Value) (σ : AMem) : fn P (XK Kn.b) H k n l σ = s_callN_i_t k n l σ := by
  unfold s_callN_i_t
  split
  · rename_i hn; subst hn
    split
    · rw [trace_all_c1_raw, trace_all_c1_is]
    · rfl
  split
  · rename_i hn; subst hn
    split
    · rw [sound_Is_c1_raw, sound_Is_c1_is]
    · rfl
  split
  · rename_i hn; subst hn
    split
    · rw [sweep_Sweeper_sweep_c1_raw, sweep_Sweeper_sweep_c1_is]
    · rfl
  split
  · rename_i hn; subst hn
    split
    · rw [side_Table_check_c1_raw, side_Table_check_c1_is]
    · rfl
  rfl

noncomputable def s_callV_i_t (k : Nat) (f : Value) (args : List Value) (σ : AMem) : Option (Value × AMem) := match f with
  | .func (.func n) first cap => bif Nat.beq n YF then none else s_callN_i_t k n (first.toList ++ args ++ cap.toList) σ
  | .func (.yield h) _ _ => fn P (XK Kn.b) H k YF (.pointer (some ⟨h, 0, none⟩) :: args) σ
  | .func (.method nm) first _ => (match first.toList ++ args with
    | .iface t v :: rest => (methodF P t nm).bind fun n => bif Nat.beq n YF then none else s_callN_i_t k n (v :: rest) σ
    | _ => none)
  | _ => none

theorem callV_i_t_is : d_callV_i_t = s_callV_i_t := by
  funext k f args σ
  simp only [d_callV_i_t, hide_eq]
  unfold callVal s_callV_i_t
  simp only [callN_i_t_is]
  rfl

def Y_pnnvii (f : M_pnnvii) : M_pnnvii := fun x0 x1 x2 x3 x4 x5 σ => fP x0 fun x0 => fN x1 fun x1 => fN x2 fun x2 => fI x4 fun x4 => fI x5 fun x5 => fL σ fun σ => f x0 x1 x2 x3 x4 x5 σ
theorem Y_pnnvii_eq (f : M_pnnvii) : f = Y_pnnvii f := by funext _ _ _ _ _ _ _; simp only [Y_pnnvii, strA]

noncomputable def s_slices_IndexFunc_int_l0 (k n : Nat) : M_pnnvii := Nat.rec (fun _ _ _ _ _ _ _ => none) (fun _ ih => Y_pnnvii (b_slices_IndexFunc_int_l0 k (s_callV_i_t k) ih)) n
theorem slices_IndexFunc_int_l0_is : d_slices_IndexFunc_int_l0 = s_slices_IndexFunc_int_l0 :=
  is_l (fun k => by simp only [d_slices_IndexFunc_int_l0, hide_eq]; rfl) fun k n ih => by rw [d_slices_IndexFunc_int_l0_eq, callV_i_t_is, ih]; exact Y_pnnvii_eq _

def W_lv (f : T_lv) : T_lv := fun x0 x1 σ => fS x0 fun x0 => fL σ fun σ => f x0 x1 σ
theorem W_lv_eq (f : T_lv) : f = W_lv f := by funext _ _ _; simp only [W_lv, strA]

noncomputable def s_slices_IndexFunc_int : Nat → T_lv
  | 0 => fun _ _ _ => none
  | k + 1 => W_lv (b_slices_IndexFunc_int k (s_slices_IndexFunc_int_l0 k))
theorem slices_IndexFunc_int_is : d_slices_IndexFunc_int = s_slices_IndexFunc_int :=
  is_f (by simp only [d_slices_IndexFunc_int, hide_eq]; rfl) fun k => by rw [d_slices_IndexFunc_int_eq, slices_IndexFunc_int_l0_is]; exact W_lv_eq _

noncomputable def s_slices_ContainsFunc_int : Nat → T_lv
  | 0 => fun _ _ _ => none
  | k + 1 => W_lv (b_slices_ContainsFunc_int k (s_slices_IndexFunc_int k))
theorem slices_ContainsFunc_int_is : d_slices_ContainsFunc_int = s_slices_ContainsFunc_int :=
  is_f (by simp only [d_slices_ContainsFunc_int, hide_eq]; rfl) fun k => by rw [d_slices_ContainsFunc_int_eq, slices_IndexFunc_int_is]; exact W_lv_eq _

def W_pil (f : T_pil) : T_pil := fun x0 x1 x2 σ => fP x0 fun x0 => fI x1 fun x1 => fS x2 fun x2 => fL σ fun σ => f x0 x1 x2 σ
theorem W_pil_eq (f : T_pil) : f = W_pil f := by funext _ _ _ _; simp only [W_pil, strA]

noncomputable def s_side_Table_check : Nat → T_pil
  | 0 => fun _ _ _ _ => none
  | k + 1 => W_pil (b_side_Table_check k (s_side_Table_made k) (s_side_Table_there k) (s_slices_ContainsFunc_int k))
theorem side_Table_check_is : d_side_Table_check = s_side_Table_check :=
  is_f (by simp only [d_side_Table_check, hide_eq]; rfl) fun k => by rw [d_side_Table_check_eq, side_Table_made_is, side_Table_there_is, slices_ContainsFunc_int_is]; exact W_pil_eq _

def W_pii (f : T_pii) : T_pii := fun x0 x1 x2 σ => fP x0 fun x0 => fI x1 fun x1 => fI x2 fun x2 => fL σ fun σ => f x0 x1 x2 σ
theorem W_pii_eq (f : T_pii) : f = W_pii f := by funext _ _ _ _; simp only [W_pii, strA]

noncomputable def s_side_Table_put : Nat → T_pii
  | 0 => fun _ _ _ _ => none
  | k + 1 => W_pii (b_side_Table_put k (s_side_Table_most k))
theorem side_Table_put_is : d_side_Table_put = s_side_Table_put :=
  is_f (by simp only [d_side_Table_put, hide_eq]; rfl) fun k => by rw [d_side_Table_put_eq, side_Table_most_is]; exact W_pii_eq _

noncomputable def s_side_Table_Swap : Nat → T_piii
  | 0 => fun _ _ _ _ _ => none
  | k + 1 => W_piii (b_side_Table_Swap k (s_side_Table_check k) (s_side_Table_get k) (s_side_Table_put k))
theorem side_Table_Swap_is : d_side_Table_Swap = s_side_Table_Swap :=
  is_f (by simp only [d_side_Table_Swap, hide_eq]; rfl) fun k => by rw [d_side_Table_Swap_eq, side_Table_check_is, side_Table_get_is, side_Table_put_is]; exact W_piii_eq _

noncomputable def s_trace_mark : Nat → T_ppi
  | 0 => fun _ _ _ _ => none
  | k + 1 => W_ppi (b_trace_mark k (s_heap_Heap_Has k) (s_side_Table_Swap k))
theorem trace_mark_is : d_trace_mark = s_trace_mark :=
  is_f (by simp only [d_trace_mark, hide_eq]; rfl) fun k => by rw [d_trace_mark_eq, heap_Heap_Has_is, side_Table_Swap_is]; exact W_ppi_eq _

noncomputable def s_trace_marker_reach : Nat → T_pi
  | 0 => fun _ _ _ => none
  | k + 1 => W_pi (b_trace_marker_reach k (s___trace_line_int__add k) (s_trace_mark k))
theorem trace_marker_reach_is : d_trace_marker_reach = s_trace_marker_reach :=
  is_f (by simp only [d_trace_marker_reach, hide_eq]; rfl) fun k => by rw [d_trace_marker_reach_eq, __trace_line_int__add_is, trace_mark_is]; exact W_pi_eq _

def Y_pii (f : M_pii) : M_pii := fun x0 x1 x2 σ => fP x0 fun x0 => fI x1 fun x1 => fI x2 fun x2 => fL σ fun σ => f x0 x1 x2 σ
theorem Y_pii_eq (f : M_pii) : f = Y_pii f := by funext _ _ _ _; simp only [Y_pii, strA]

noncomputable def s_side_Table_Next_l0 (k n : Nat) : M_pii := Nat.rec (fun _ _ _ _ => none) (fun _ ih => Y_pii (b_side_Table_Next_l0 k (s_side_Table_get k) ih)) n
theorem side_Table_Next_l0_is : d_side_Table_Next_l0 = s_side_Table_Next_l0 :=
  is_l (fun k => by simp only [d_side_Table_Next_l0, hide_eq]; rfl) fun k n ih => by rw [d_side_Table_Next_l0_eq, side_Table_get_is, ih]; exact Y_pii_eq _

noncomputable def s_side_Table_Next : Nat → T_pii
  | 0 => fun _ _ _ _ => none
  | k + 1 => W_pii (b_side_Table_Next k (s_side_Table_Next_l0 k) (s_side_Table_made k))
theorem side_Table_Next_is : d_side_Table_Next = s_side_Table_Next :=
  is_f (by simp only [d_side_Table_Next, hide_eq]; rfl) fun k => by rw [d_side_Table_Next_eq, side_Table_Next_l0_is, side_Table_made_is]; exact W_pii_eq _

def Y_pilii (f : M_pilii) : M_pilii := fun x0 x1 x2 x3 x4 σ => fP x0 fun x0 => fI x1 fun x1 => fS x2 fun x2 => fI x3 fun x3 => fI x4 fun x4 => fL σ fun σ => f x0 x1 x2 x3 x4 σ
theorem Y_pilii_eq (f : M_pilii) : f = Y_pilii f := by funext _ _ _ _ _ _; simp only [Y_pilii, strA]

noncomputable def s_heap_Heap_between_l0 (k n : Nat) : M_pilii := Nat.rec (fun _ _ _ _ _ _ => none) (fun _ ih => Y_pilii (b_heap_Heap_between_l0 k (s_side_Table_Next k) ih)) n
theorem heap_Heap_between_l0_is : d_heap_Heap_between_l0 = s_heap_Heap_between_l0 :=
  is_l (fun k => by simp only [d_heap_Heap_between_l0, hide_eq]; rfl) fun k n ih => by rw [d_heap_Heap_between_l0_eq, side_Table_Next_is, ih]; exact Y_pilii_eq _

noncomputable def s_heap_Heap_between : Nat → T_pii
  | 0 => fun _ _ _ _ => none
  | k + 1 => W_pii (b_heap_Heap_between k (s_heap_Heap_between_l0 k) (s_side_Table_Next k))
theorem heap_Heap_between_is : d_heap_Heap_between = s_heap_Heap_between :=
  is_f (by simp only [d_heap_Heap_between, hide_eq]; rfl) fun k => by rw [d_heap_Heap_between_eq, heap_Heap_between_l0_is, side_Table_Next_is]; exact W_pii_eq _

noncomputable def s_heap_Heap_All : Nat → T_p
  | 0 => fun _ _ => none
  | k + 1 => W_p (b_heap_Heap_All k (s_heap_Heap_between k) (s_heap_Heap_made k))
theorem heap_Heap_All_is : d_heap_Heap_All = s_heap_Heap_All :=
  is_f (by simp only [d_heap_Heap_All, hide_eq]; rfl) fun k => by rw [d_heap_Heap_All_eq, heap_Heap_between_is, heap_Heap_made_is]; exact W_p_eq _

noncomputable def s_slices_DeleteFunc_int_l0 (k n : Nat) : M_pnnvii := Nat.rec (fun _ _ _ _ _ _ _ => none) (fun _ ih => Y_pnnvii (b_slices_DeleteFunc_int_l0 k (s_callV_i_t k) ih)) n
theorem slices_DeleteFunc_int_l0_is : d_slices_DeleteFunc_int_l0 = s_slices_DeleteFunc_int_l0 :=
  is_l (fun k => by simp only [d_slices_DeleteFunc_int_l0, hide_eq]; rfl) fun k n ih => by rw [d_slices_DeleteFunc_int_l0_eq, callV_i_t_is, ih]; exact Y_pnnvii_eq _

noncomputable def s_slices_DeleteFunc_int : Nat → T_lv
  | 0 => fun _ _ _ => none
  | k + 1 => W_lv (b_slices_DeleteFunc_int k (s_slices_DeleteFunc_int_l0 k) (s_slices_IndexFunc_int k))
theorem slices_DeleteFunc_int_is : d_slices_DeleteFunc_int = s_slices_DeleteFunc_int :=
  is_f (by simp only [d_slices_DeleteFunc_int, hide_eq]; rfl) fun k => by rw [d_slices_DeleteFunc_int_eq, slices_DeleteFunc_int_l0_is, slices_IndexFunc_int_is]; exact W_lv_eq _

noncomputable def s_trace_all : Nat → T_pp
  | 0 => fun _ _ _ => none
  | k + 1 => W_pp (b_trace_all k (s_heap_Heap_All k) (s_slices_DeleteFunc_int k))
theorem trace_all_is : d_trace_all = s_trace_all :=
  is_f (by simp only [d_trace_all, hide_eq]; rfl) fun k => by rw [d_trace_all_eq, heap_Heap_All_is, slices_DeleteFunc_int_is]; exact W_pp_eq _

noncomputable def s___trace_line_int__oldest : Nat → T_p
  | 0 => fun _ _ => none
  | k + 1 => W_p (b___trace_line_int__oldest k )
theorem __trace_line_int__oldest_is : d___trace_line_int__oldest = s___trace_line_int__oldest :=
  is_f (by simp only [d___trace_line_int__oldest, hide_eq]; rfl) fun k => by rw [d___trace_line_int__oldest_eq]; exact W_p_eq _

noncomputable def s_heap_Heap_object : Nat → T_pi
  | 0 => fun _ _ _ => none
  | k + 1 => W_pi (b_heap_Heap_object k (s_heap_Heap_Has k) (s_heap_Heap_made k))
theorem heap_Heap_object_is : d_heap_Heap_object = s_heap_Heap_object :=
  is_f (by simp only [d_heap_Heap_object, hide_eq]; rfl) fun k => by rw [d_heap_Heap_object_eq, heap_Heap_Has_is, heap_Heap_made_is]; exact W_pi_eq _

noncomputable def s_heap_shape : Nat → T_i
  | 0 => fun _ _ => none
  | k + 1 => W_i (b_heap_shape k )
theorem heap_shape_is : d_heap_shape = s_heap_shape :=
  is_f (by simp only [d_heap_shape, hide_eq]; rfl) fun k => by rw [d_heap_shape_eq]; exact W_i_eq _

noncomputable def s_heap_Heap_Shape : Nat → T_pi
  | 0 => fun _ _ _ => none
  | k + 1 => W_pi (b_heap_Heap_Shape k (s_heap_Heap_object k) (s_heap_shape k))
theorem heap_Heap_Shape_is : d_heap_Heap_Shape = s_heap_Heap_Shape :=
  is_f (by simp only [d_heap_Heap_Shape, hide_eq]; rfl) fun k => by rw [d_heap_Heap_Shape_eq, heap_Heap_object_is, heap_shape_is]; exact W_pi_eq _

def W_iii (f : T_iii) : T_iii := fun x0 x1 x2 σ => fI x0 fun x0 => fI x1 fun x1 => fI x2 fun x2 => fL σ fun σ => f x0 x1 x2 σ
theorem W_iii_eq (f : T_iii) : f = W_iii f := by funext _ _ _ _; simp only [W_iii, strA]

noncomputable def s_trace_softs : Nat → T_iii
  | 0 => fun _ _ _ _ => none
  | k + 1 => W_iii (b_trace_softs k )
theorem trace_softs_is : d_trace_softs = s_trace_softs :=
  is_f (by simp only [d_trace_softs, hide_eq]; rfl) fun k => by rw [d_trace_softs_eq]; exact W_iii_eq _

def W_piib (f : T_piib) : T_piib := fun x0 x1 x2 x3 σ => fP x0 fun x0 => fI x1 fun x1 => fI x2 fun x2 => fB x3 fun x3 => fL σ fun σ => f x0 x1 x2 x3 σ
theorem W_piib_eq (f : T_piib) : f = W_piib f := by funext _ _ _ _ _; simp only [W_piib, strA]

noncomputable def s_heap_Heap_field : Nat → T_piib
  | 0 => fun _ _ _ _ _ => none
  | k + 1 => W_piib (b_heap_Heap_field k (s_heap_Heap_object k) (s_heap_shape k))
theorem heap_Heap_field_is : d_heap_Heap_field = s_heap_Heap_field :=
  is_f (by simp only [d_heap_Heap_field, hide_eq]; rfl) fun k => by rw [d_heap_Heap_field_eq, heap_Heap_object_is, heap_shape_is]; exact W_piib_eq _

noncomputable def s_heap_Heap_Ref : Nat → T_pii
  | 0 => fun _ _ _ _ => none
  | k + 1 => W_pii (b_heap_Heap_Ref k (s_heap_Heap_field k))
theorem heap_Heap_Ref_is : d_heap_Heap_Ref = s_heap_Heap_Ref :=
  is_f (by simp only [d_heap_Heap_Ref, hide_eq]; rfl) fun k => by rw [d_heap_Heap_Ref_eq, heap_Heap_field_is]; exact W_pii_eq _

def Y_pinli (f : M_pinli) : M_pinli := fun x0 x1 x2 x3 x4 σ => fP x0 fun x0 => fI x1 fun x1 => fN x2 fun x2 => fS x3 fun x3 => fI x4 fun x4 => fL σ fun σ => f x0 x1 x2 x3 x4 σ
theorem Y_pinli_eq (f : M_pinli) : f = Y_pinli f := by funext _ _ _ _ _ _; simp only [Y_pinli, strA]

noncomputable def s_trace_strong_l0 (k n : Nat) : M_pinli := Nat.rec (fun _ _ _ _ _ _ => none) (fun _ ih => Y_pinli (b_trace_strong_l0 k (s_heap_Heap_Ref k) ih)) n
theorem trace_strong_l0_is : d_trace_strong_l0 = s_trace_strong_l0 :=
  is_l (fun k => by simp only [d_trace_strong_l0, hide_eq]; rfl) fun k n ih => by rw [d_trace_strong_l0_eq, heap_Heap_Ref_is, ih]; exact Y_pinli_eq _

noncomputable def s_trace_strong : Nat → T_pi
  | 0 => fun _ _ _ => none
  | k + 1 => W_pi (b_trace_strong k (s_heap_Heap_Shape k) (s_trace_softs k) (s_trace_strong_l0 k))
theorem trace_strong_is : d_trace_strong = s_trace_strong :=
  is_f (by simp only [d_trace_strong, hide_eq]; rfl) fun k => by rw [d_trace_strong_eq, heap_Heap_Shape_is, trace_softs_is, trace_strong_l0_is]; exact W_pi_eq _

def Y_ppnnii (f : M_ppnnii) : M_ppnnii := fun x0 x1 x2 x3 x4 x5 σ => fP x0 fun x0 => fP x1 fun x1 => fN x2 fun x2 => fN x3 fun x3 => fI x4 fun x4 => fI x5 fun x5 => fL σ fun σ => f x0 x1 x2 x3 x4 x5 σ
theorem Y_ppnnii_eq (f : M_ppnnii) : f = Y_ppnnii f := by funext _ _ _ _ _ _ _; simp only [Y_ppnnii, strA]

noncomputable def s_trace_marker_scan_l0 (k n : Nat) : M_ppnnii := Nat.rec (fun _ _ _ _ _ _ _ => none) (fun _ ih => Y_ppnnii (b_trace_marker_scan_l0 k (s_trace_marker_reach k) ih)) n
theorem trace_marker_scan_l0_is : d_trace_marker_scan_l0 = s_trace_marker_scan_l0 :=
  is_l (fun k => by simp only [d_trace_marker_scan_l0, hide_eq]; rfl) fun k n ih => by rw [d_trace_marker_scan_l0_eq, trace_marker_reach_is, ih]; exact Y_ppnnii_eq _

noncomputable def s_trace_marker_scan : Nat → T_pi
  | 0 => fun _ _ _ => none
  | k + 1 => W_pi (b_trace_marker_scan k (s_trace_marker_scan_l0 k) (s_trace_strong k))
theorem trace_marker_scan_is : d_trace_marker_scan = s_trace_marker_scan :=
  is_f (by simp only [d_trace_marker_scan, hide_eq]; rfl) fun k => by rw [d_trace_marker_scan_eq, trace_marker_scan_l0_is, trace_strong_is]; exact W_pi_eq _

noncomputable def s___trace_line_int__newest : Nat → T_p
  | 0 => fun _ _ => none
  | k + 1 => W_p (b___trace_line_int__newest k )
theorem __trace_line_int__newest_is : d___trace_line_int__newest = s___trace_line_int__newest :=
  is_f (by simp only [d___trace_line_int__newest, hide_eq]; rfl) fun k => by rw [d___trace_line_int__newest_eq]; exact W_p_eq _

def Y_p (f : M_p) : M_p := fun x0 σ => fP x0 fun x0 => fL σ fun σ => f x0 σ
theorem Y_p_eq (f : M_p) : f = Y_p f := by funext _ _; simp only [Y_p, strA]

noncomputable def s_trace_marker_drain_l0 (k n : Nat) : M_p := Nat.rec (fun _ _ => none) (fun _ ih => Y_p (b_trace_marker_drain_l0 k (s___trace_line_int__newest k) (s___trace_line_int__oldest k) (s_trace_marker_scan k) ih)) n
theorem trace_marker_drain_l0_is : d_trace_marker_drain_l0 = s_trace_marker_drain_l0 :=
  is_l (fun k => by simp only [d_trace_marker_drain_l0, hide_eq]; rfl) fun k n ih => by rw [d_trace_marker_drain_l0_eq, __trace_line_int__newest_is, __trace_line_int__oldest_is, trace_marker_scan_is, ih]; exact Y_p_eq _

noncomputable def s_trace_marker_drain : Nat → T_p
  | 0 => fun _ _ => none
  | k + 1 => W_p (b_trace_marker_drain k (s_trace_marker_drain_l0 k))
theorem trace_marker_drain_is : d_trace_marker_drain = s_trace_marker_drain :=
  is_f (by simp only [d_trace_marker_drain, hide_eq]; rfl) fun k => by rw [d_trace_marker_drain_eq, trace_marker_drain_l0_is]; exact W_p_eq _

noncomputable def s_trace_marker_run_l1 (k n : Nat) : M_ppnnii := Nat.rec (fun _ _ _ _ _ _ _ => none) (fun _ ih => Y_ppnnii (b_trace_marker_run_l1 k (s_trace_marker_drain k) (s_trace_marker_scan k) ih)) n
theorem trace_marker_run_l1_is : d_trace_marker_run_l1 = s_trace_marker_run_l1 :=
  is_l (fun k => by simp only [d_trace_marker_run_l1, hide_eq]; rfl) fun k n ih => by rw [d_trace_marker_run_l1_eq, trace_marker_drain_is, trace_marker_scan_is, ih]; exact Y_ppnnii_eq _

noncomputable def s_trace_marker_run_l0 (k n : Nat) : M_p := Nat.rec (fun _ _ => none) (fun _ ih => Y_p (b_trace_marker_run_l0 k (s_trace_all k) (s_trace_marker_run_l1 k) ih)) n
theorem trace_marker_run_l0_is : d_trace_marker_run_l0 = s_trace_marker_run_l0 :=
  is_l (fun k => by simp only [d_trace_marker_run_l0, hide_eq]; rfl) fun k n ih => by rw [d_trace_marker_run_l0_eq, trace_all_is, trace_marker_run_l1_is, ih]; exact Y_p_eq _

noncomputable def s_trace_marker_run : Nat → T_p
  | 0 => fun _ _ => none
  | k + 1 => W_p (b_trace_marker_run k (s_trace_marker_drain k) (s_trace_marker_run_l0 k))
theorem trace_marker_run_is : d_trace_marker_run = s_trace_marker_run :=
  is_f (by simp only [d_trace_marker_run, hide_eq]; rfl) fun k => by rw [d_trace_marker_run_eq, trace_marker_drain_is, trace_marker_run_l0_is]; exact W_p_eq _

def Y_pppnnili (f : M_pppnnili) : M_pppnnili := fun x0 x1 x2 x3 x4 x5 x6 x7 σ => fP x0 fun x0 => fP x1 fun x1 => fP x2 fun x2 => fN x3 fun x3 => fN x4 fun x4 => fI x5 fun x5 => fS x6 fun x6 => fI x7 fun x7 => fL σ fun σ => f x0 x1 x2 x3 x4 x5 x6 x7 σ
theorem Y_pppnnili_eq (f : M_pppnnili) : f = Y_pppnnili f := by funext _ _ _ _ _ _ _ _ _; simp only [Y_pppnnili, strA]

noncomputable def s_trace_due_l0 (k n : Nat) : M_pppnnili := Nat.rec (fun _ _ _ _ _ _ _ _ _ => none) (fun _ ih => Y_pppnnili (b_trace_due_l0 k (s_heap_Heap_Ref k) (s_heap_Heap_Shape k) (s_trace_marked k) ih)) n
theorem trace_due_l0_is : d_trace_due_l0 = s_trace_due_l0 :=
  is_l (fun k => by simp only [d_trace_due_l0, hide_eq]; rfl) fun k n ih => by rw [d_trace_due_l0_eq, heap_Heap_Ref_is, heap_Heap_Shape_is, trace_marked_is, ih]; exact Y_pppnnili_eq _

noncomputable def s_trace_due : Nat → T_pp
  | 0 => fun _ _ _ => none
  | k + 1 => W_pp (b_trace_due k (s_trace_all k) (s_trace_due_l0 k))
theorem trace_due_is : d_trace_due = s_trace_due :=
  is_f (by simp only [d_trace_due, hide_eq]; rfl) fun k => by rw [d_trace_due_eq, trace_all_is, trace_due_l0_is]; exact W_pp_eq _

def Y_ppnnibi (f : M_ppnnibi) : M_ppnnibi := fun x0 x1 x2 x3 x4 x5 x6 σ => fP x0 fun x0 => fP x1 fun x1 => fN x2 fun x2 => fN x3 fun x3 => fI x4 fun x4 => fB x5 fun x5 => fI x6 fun x6 => fL σ fun σ => f x0 x1 x2 x3 x4 x5 x6 σ
theorem Y_ppnnibi_eq (f : M_ppnnibi) : f = Y_ppnnibi f := by funext _ _ _ _ _ _ _ _; simp only [Y_ppnnibi, strA]

noncomputable def s_trace_marker_round_l0 (k n : Nat) : M_ppnnibi := Nat.rec (fun _ _ _ _ _ _ _ _ => none) (fun _ ih => Y_ppnnibi (b_trace_marker_round_l0 k (s_trace_marker_reach k) ih)) n
theorem trace_marker_round_l0_is : d_trace_marker_round_l0 = s_trace_marker_round_l0 :=
  is_l (fun k => by simp only [d_trace_marker_round_l0, hide_eq]; rfl) fun k n ih => by rw [d_trace_marker_round_l0_eq, trace_marker_reach_is, ih]; exact Y_ppnnibi_eq _

noncomputable def s_trace_marker_round : Nat → T_p
  | 0 => fun _ _ => none
  | k + 1 => W_p (b_trace_marker_round k (s_trace_due k) (s_trace_marker_round_l0 k))
theorem trace_marker_round_is : d_trace_marker_round = s_trace_marker_round :=
  is_f (by simp only [d_trace_marker_round, hide_eq]; rfl) fun k => by rw [d_trace_marker_round_eq, trace_due_is, trace_marker_round_l0_is]; exact W_p_eq _

def Y_pnpnnii (f : M_pnpnnii) : M_pnpnnii := fun x0 x1 x2 x3 x4 x5 x6 σ => fP x0 fun x0 => fN x1 fun x1 => fP x2 fun x2 => fN x3 fun x3 => fN x4 fun x4 => fI x5 fun x5 => fI x6 fun x6 => fL σ fun σ => f x0 x1 x2 x3 x4 x5 x6 σ
theorem Y_pnpnnii_eq (f : M_pnpnnii) : f = Y_pnpnnii f := by funext _ _ _ _ _ _ _ _; simp only [Y_pnpnnii, strA]

noncomputable def s_trace_Mark_l0 (k n : Nat) : M_pnpnnii := Nat.rec (fun _ _ _ _ _ _ _ _ => none) (fun _ ih => Y_pnpnnii (b_trace_Mark_l0 k (s_roots_Roots_Get k) (s_trace_marker_reach k) ih)) n
theorem trace_Mark_l0_is : d_trace_Mark_l0 = s_trace_Mark_l0 :=
  is_l (fun k => by simp only [d_trace_Mark_l0, hide_eq]; rfl) fun k n ih => by rw [d_trace_Mark_l0_eq, roots_Roots_Get_is, trace_marker_reach_is, ih]; exact Y_pnpnnii_eq _

def Y_n (f : M_n) : M_n := fun x0 σ => fN x0 fun x0 => fL σ fun σ => f x0 σ
theorem Y_n_eq (f : M_n) : f = Y_n f := by funext _ _; simp only [Y_n, strA]

noncomputable def s_trace_Mark_l1 (k n : Nat) : M_n := Nat.rec (fun _ _ => none) (fun _ ih => Y_n (b_trace_Mark_l1 k (s_trace_marker_round k) (s_trace_marker_run k) ih)) n
theorem trace_Mark_l1_is : d_trace_Mark_l1 = s_trace_Mark_l1 :=
  is_l (fun k => by simp only [d_trace_Mark_l1, hide_eq]; rfl) fun k n ih => by rw [d_trace_Mark_l1_eq, trace_marker_round_is, trace_marker_run_is, ih]; exact Y_n_eq _

def W_ppii (f : T_ppii) : T_ppii := fun x0 x1 x2 x3 σ => fP x0 fun x0 => fP x1 fun x1 => fI x2 fun x2 => fI x3 fun x3 => fL σ fun σ => f x0 x1 x2 x3 σ
theorem W_ppii_eq (f : T_ppii) : f = W_ppii f := by funext _ _ _ _ _; simp only [W_ppii, strA]

noncomputable def s_trace_Mark : Nat → T_ppii
  | 0 => fun _ _ _ _ _ => none
  | k + 1 => W_ppii (b_trace_Mark k (s_roots_Roots_Places k) (s_trace_Mark_l0 k) (s_trace_Mark_l1 k) (s_trace_given k) (s_trace_marker_run k) (s_trace_table k))
theorem trace_Mark_is : d_trace_Mark = s_trace_Mark :=
  is_f (by simp only [d_trace_Mark, hide_eq]; rfl) fun k => by rw [d_trace_Mark_eq, roots_Roots_Places_is, trace_Mark_l0_is, trace_Mark_l1_is, trace_given_is, trace_marker_run_is, trace_table_is]; exact W_ppii_eq _

noncomputable def s_side_Table_Width : Nat → T_p
  | 0 => fun _ _ => none
  | k + 1 => W_p (b_side_Table_Width k (s_side_Table_made k))
theorem side_Table_Width_is : d_side_Table_Width = s_side_Table_Width :=
  is_f (by simp only [d_side_Table_Width, hide_eq]; rfl) fun k => by rw [d_side_Table_Width_eq, side_Table_made_is]; exact W_p_eq _

noncomputable def s_side_Table_Entries : Nat → T_p
  | 0 => fun _ _ => none
  | k + 1 => W_p (b_side_Table_Entries k (s_side_Table_made k))
theorem side_Table_Entries_is : d_side_Table_Entries = s_side_Table_Entries :=
  is_f (by simp only [d_side_Table_Entries, hide_eq]; rfl) fun k => by rw [d_side_Table_Entries_eq, side_Table_made_is]; exact W_p_eq _

noncomputable def s_trace_fits : Nat → T_pp
  | 0 => fun _ _ _ => none
  | k + 1 => W_pp (b_trace_fits k (s_heap_Heap_Blocks k) (s_side_Table_Entries k) (s_side_Table_Width k))
theorem trace_fits_is : d_trace_fits = s_trace_fits :=
  is_f (by simp only [d_trace_fits, hide_eq]; rfl) fun k => by rw [d_trace_fits_eq, heap_Heap_Blocks_is, side_Table_Entries_is, side_Table_Width_is]; exact W_pp_eq _

noncomputable def s_heap_Heap_SetRef : Nat → T_piii
  | 0 => fun _ _ _ _ _ => none
  | k + 1 => W_piii (b_heap_Heap_SetRef k (s_heap_Heap_Has k) (s_heap_Heap_field k))
theorem heap_Heap_SetRef_is : d_heap_Heap_SetRef = s_heap_Heap_SetRef :=
  is_f (by simp only [d_heap_Heap_SetRef, hide_eq]; rfl) fun k => by rw [d_heap_Heap_SetRef_eq, heap_Heap_Has_is, heap_Heap_field_is]; exact W_piii_eq _

def Y_piibi (f : M_piibi) : M_piibi := fun x0 x1 x2 x3 x4 σ => fP x0 fun x0 => fI x1 fun x1 => fI x2 fun x2 => fB x3 fun x3 => fI x4 fun x4 => fL σ fun σ => f x0 x1 x2 x3 x4 σ
theorem Y_piibi_eq (f : M_piibi) : f = Y_piibi f := by funext _ _ _ _ _ _; simp only [Y_piibi, strA]

noncomputable def s_trace_Clear_l1 (k n : Nat) : M_piibi := Nat.rec (fun _ _ _ _ _ _ => none) (fun _ ih => Y_piibi (b_trace_Clear_l1 k (s_heap_Heap_Ref k) (s_heap_Heap_SetRef k) ih)) n
theorem trace_Clear_l1_is : d_trace_Clear_l1 = s_trace_Clear_l1 :=
  is_l (fun k => by simp only [d_trace_Clear_l1, hide_eq]; rfl) fun k n ih => by rw [d_trace_Clear_l1_eq, heap_Heap_Ref_is, heap_Heap_SetRef_is, ih]; exact Y_piibi_eq _

def Y_pppnniii (f : M_pppnniii) : M_pppnniii := fun x0 x1 x2 x3 x4 x5 x6 x7 σ => fP x0 fun x0 => fP x1 fun x1 => fP x2 fun x2 => fN x3 fun x3 => fN x4 fun x4 => fI x5 fun x5 => fI x6 fun x6 => fI x7 fun x7 => fL σ fun σ => f x0 x1 x2 x3 x4 x5 x6 x7 σ
theorem Y_pppnniii_eq (f : M_pppnniii) : f = Y_pppnniii f := by funext _ _ _ _ _ _ _ _ _; simp only [Y_pppnniii, strA]

noncomputable def s_trace_Clear_l0 (k n : Nat) : M_pppnniii := Nat.rec (fun _ _ _ _ _ _ _ _ _ => none) (fun _ ih => Y_pppnniii (b_trace_Clear_l0 k (s_heap_Heap_Ref k) (s_heap_Heap_Shape k) (s_trace_Clear_l1 k) (s_trace_marked k) (s_trace_softs k) ih)) n
theorem trace_Clear_l0_is : d_trace_Clear_l0 = s_trace_Clear_l0 :=
  is_l (fun k => by simp only [d_trace_Clear_l0, hide_eq]; rfl) fun k n ih => by rw [d_trace_Clear_l0_eq, heap_Heap_Ref_is, heap_Heap_Shape_is, trace_Clear_l1_is, trace_marked_is, trace_softs_is, ih]; exact Y_pppnniii_eq _

noncomputable def s_trace_Clear : Nat → T_pp
  | 0 => fun _ _ _ => none
  | k + 1 => W_pp (b_trace_Clear k (s_trace_Clear_l0 k) (s_trace_all k) (s_trace_fits k))
theorem trace_Clear_is : d_trace_Clear = s_trace_Clear :=
  is_f (by simp only [d_trace_Clear, hide_eq]; rfl) fun k => by rw [d_trace_Clear_eq, trace_Clear_l0_is, trace_all_is, trace_fits_is]; exact W_pp_eq _

noncomputable def s_trace_Marked : Nat → T_ppi
  | 0 => fun _ _ _ _ => none
  | k + 1 => W_ppi (b_trace_Marked k (s_trace_fits k) (s_trace_marked k))
theorem trace_Marked_is : d_trace_Marked = s_trace_Marked :=
  is_f (by simp only [d_trace_Marked, hide_eq]; rfl) fun k => by rw [d_trace_Marked_eq, trace_fits_is, trace_marked_is]; exact W_ppi_eq _

noncomputable def s_sweep_Sweeper_made : Nat → T_p
  | 0 => fun _ _ => none
  | k + 1 => W_p (b_sweep_Sweeper_made k )
theorem sweep_Sweeper_made_is : d_sweep_Sweeper_made = s_sweep_Sweeper_made :=
  is_f (by simp only [d_sweep_Sweeper_made, hide_eq]; rfl) fun k => by rw [d_sweep_Sweeper_made_eq]; exact W_p_eq _

def W_l (f : T_l) : T_l := fun x0 σ => fS x0 fun x0 => fL σ fun σ => f x0 σ
theorem W_l_eq (f : T_l) : f = W_l f := by funext _ _; simp only [W_l, strA]

noncomputable def s_slices_Clone_int : Nat → T_l
  | 0 => fun _ _ => none
  | k + 1 => W_l (b_slices_Clone_int k )
theorem slices_Clone_int_is : d_slices_Clone_int = s_slices_Clone_int :=
  is_f (by simp only [d_slices_Clone_int, hide_eq]; rfl) fun k => by rw [d_slices_Clone_int_eq]; exact W_l_eq _

noncomputable def s_sweep_Sweeper_Left : Nat → T_p
  | 0 => fun _ _ => none
  | k + 1 => W_p (b_sweep_Sweeper_Left k (s_slices_Clone_int k) (s_sweep_Sweeper_made k))
theorem sweep_Sweeper_Left_is : d_sweep_Sweeper_Left = s_sweep_Sweeper_Left :=
  is_f (by simp only [d_sweep_Sweeper_Left, hide_eq]; rfl) fun k => by rw [d_sweep_Sweeper_Left_eq, slices_Clone_int_is, sweep_Sweeper_made_is]; exact W_p_eq _

noncomputable def s_slices_Clone_uint64 : Nat → T_l
  | 0 => fun _ _ => none
  | k + 1 => W_l (b_slices_Clone_uint64 k )
theorem slices_Clone_uint64_is : d_slices_Clone_uint64 = s_slices_Clone_uint64 :=
  is_f (by simp only [d_slices_Clone_uint64, hide_eq]; rfl) fun k => by rw [d_slices_Clone_uint64_eq]; exact W_l_eq _

noncomputable def s_side_Table_Clone : Nat → T_p
  | 0 => fun _ _ => none
  | k + 1 => W_p (b_side_Table_Clone k (s_side_Table_made k) (s_slices_Clone_uint64 k))
theorem side_Table_Clone_is : d_side_Table_Clone = s_side_Table_Clone :=
  is_f (by simp only [d_side_Table_Clone, hide_eq]; rfl) fun k => by rw [d_side_Table_Clone_eq, side_Table_made_is, slices_Clone_uint64_is]; exact W_p_eq _

noncomputable def s_sweep_Sweeper_Clone : Nat → T_pp
  | 0 => fun _ _ _ => none
  | k + 1 => W_pp (b_sweep_Sweeper_Clone k (s_heap_Heap_Blocks k) (s_side_Table_Clone k) (s_slices_Clone_int k) (s_sweep_Sweeper_made k))
theorem sweep_Sweeper_Clone_is : d_sweep_Sweeper_Clone = s_sweep_Sweeper_Clone :=
  is_f (by simp only [d_sweep_Sweeper_Clone, hide_eq]; rfl) fun k => by rw [d_sweep_Sweeper_Clone_eq, heap_Heap_Blocks_is, side_Table_Clone_is, slices_Clone_int_is, sweep_Sweeper_made_is]; exact W_pp_eq _

noncomputable def s_heap_Heap_State : Nat → T_pi
  | 0 => fun _ _ _ => none
  | k + 1 => W_pi (b_heap_Heap_State k (s_heap_Heap_Blocks k))
theorem heap_Heap_State_is : d_heap_Heap_State = s_heap_Heap_State :=
  is_f (by simp only [d_heap_Heap_State, hide_eq]; rfl) fun k => by rw [d_heap_Heap_State_eq, heap_Heap_Blocks_is]; exact W_pi_eq _

noncomputable def s_sweep_held : Nat → T_pi
  | 0 => fun _ _ _ => none
  | k + 1 => W_pi (b_sweep_held k (s_heap_Heap_State k))
theorem sweep_held_is : d_sweep_held = s_sweep_held :=
  is_f (by simp only [d_sweep_held, hide_eq]; rfl) fun k => by rw [d_sweep_held_eq, heap_Heap_State_is]; exact W_pi_eq _

def Y_pnii (f : M_pnii) : M_pnii := fun x0 x1 x2 x3 σ => fP x0 fun x0 => fN x1 fun x1 => fI x2 fun x2 => fI x3 fun x3 => fL σ fun σ => f x0 x1 x2 x3 σ
theorem Y_pnii_eq (f : M_pnii) : f = Y_pnii f := by funext _ _ _ _ _; simp only [Y_pnii, strA]

noncomputable def s_sweep_New_l0 (k n : Nat) : M_pnii := Nat.rec (fun _ _ _ _ _ => none) (fun _ ih => Y_pnii (b_sweep_New_l0 k (s_sweep_held k) ih)) n
theorem sweep_New_l0_is : d_sweep_New_l0 = s_sweep_New_l0 :=
  is_l (fun k => by simp only [d_sweep_New_l0, hide_eq]; rfl) fun k n ih => by rw [d_sweep_New_l0_eq, sweep_held_is, ih]; exact Y_pnii_eq _

noncomputable def s_sweep_New : Nat → T_pp
  | 0 => fun _ _ _ => none
  | k + 1 => W_pp (b_sweep_New k (s_heap_Heap_Blocks k) (s_side_Table_Clone k) (s_side_Table_Entries k) (s_side_Table_Width k) (s_sweep_New_l0 k))
theorem sweep_New_is : d_sweep_New = s_sweep_New :=
  is_f (by simp only [d_sweep_New, hide_eq]; rfl) fun k => by rw [d_sweep_New_eq, heap_Heap_Blocks_is, side_Table_Clone_is, side_Table_Entries_is, side_Table_Width_is, sweep_New_l0_is]; exact W_pp_eq _

noncomputable def s_roots_Roots_Leads : Nat → T_p
  | 0 => fun _ _ => none
  | k + 1 => W_p (b_roots_Roots_Leads k (s_callV_f_0 k) (s_roots_Roots_all k) (s_roots_Roots_made k))
theorem roots_Roots_Leads_is : d_roots_Roots_Leads = s_roots_Roots_Leads :=
  is_f (by simp only [d_roots_Roots_Leads, hide_eq]; rfl) fun k => by rw [d_roots_Roots_Leads_eq, callV_f_0_is, roots_Roots_all_is, roots_Roots_made_is]; exact W_p_eq _

def Y_niii (f : M_niii) : M_niii := fun x0 x1 x2 x3 σ => fN x0 fun x0 => fI x1 fun x1 => fI x2 fun x2 => fI x3 fun x3 => fL σ fun σ => f x0 x1 x2 x3 σ
theorem Y_niii_eq (f : M_niii) : f = Y_niii f := by funext _ _ _ _ _; simp only [Y_niii, strA]

noncomputable def s_sound_Is_l1 (k n : Nat) : M_niii := Nat.rec (fun _ _ _ _ _ => none) (fun _ ih => Y_niii (b_sound_Is_l1 k (s_heap_Heap_Ref k) (s_sound_Is_c1 k) ih)) n
theorem sound_Is_l1_is : d_sound_Is_l1 = s_sound_Is_l1 :=
  is_l (fun k => by simp only [d_sound_Is_l1, hide_eq]; rfl) fun k n ih => by rw [d_sound_Is_l1_eq, heap_Heap_Ref_is, sound_Is_c1_is, ih]; exact Y_niii_eq _

def Y_npnnii (f : M_npnnii) : M_npnnii := fun x0 x1 x2 x3 x4 x5 σ => fN x0 fun x0 => fP x1 fun x1 => fN x2 fun x2 => fN x3 fun x3 => fI x4 fun x4 => fI x5 fun x5 => fL σ fun σ => f x0 x1 x2 x3 x4 x5 σ
theorem Y_npnnii_eq (f : M_npnnii) : f = Y_npnnii f := by funext _ _ _ _ _ _ _; simp only [Y_npnnii, strA]

noncomputable def s_sound_Is_l0 (k n : Nat) : M_npnnii := Nat.rec (fun _ _ _ _ _ _ _ => none) (fun _ ih => Y_npnnii (b_sound_Is_l0 k (s_heap_Heap_Shape k) (s_sound_Is_l1 k) ih)) n
theorem sound_Is_l0_is : d_sound_Is_l0 = s_sound_Is_l0 :=
  is_l (fun k => by simp only [d_sound_Is_l0, hide_eq]; rfl) fun k n ih => by rw [d_sound_Is_l0_eq, heap_Heap_Shape_is, sound_Is_l1_is, ih]; exact Y_npnnii_eq _

noncomputable def s_sound_Is : Nat → T_pp
  | 0 => fun _ _ _ => none
  | k + 1 => W_pp (b_sound_Is k (s_heap_Heap_All k) (s_roots_Roots_Leads k) (s_slices_ContainsFunc_int k) (s_sound_Is_l0 k))
theorem sound_Is_is : d_sound_Is = s_sound_Is :=
  is_f (by simp only [d_sound_Is, hide_eq]; rfl) fun k => by rw [d_sound_Is_eq, heap_Heap_All_is, roots_Roots_Leads_is, slices_ContainsFunc_int_is, sound_Is_l0_is]; exact W_pp_eq _

noncomputable def s_heap_Valid : Nat → T_iii
  | 0 => fun _ _ _ _ => none
  | k + 1 => W_iii (b_heap_Valid k )
theorem heap_Valid_is : d_heap_Valid = s_heap_Valid :=
  is_f (by simp only [d_heap_Valid, hide_eq]; rfl) fun k => by rw [d_heap_Valid_eq]; exact W_iii_eq _

noncomputable def s_heap_Words : Nat → T_iii
  | 0 => fun _ _ _ _ => none
  | k + 1 => W_iii (b_heap_Words k (s_heap_Valid k))
theorem heap_Words_is : d_heap_Words = s_heap_Words :=
  is_f (by simp only [d_heap_Words, hide_eq]; rfl) fun k => by rw [d_heap_Words_eq, heap_Valid_is]; exact W_iii_eq _

noncomputable def s_heap_Heap_Objects : Nat → T_pi
  | 0 => fun _ _ _ => none
  | k + 1 => W_pi (b_heap_Heap_Objects k (s_heap_Heap_between k) (s_heap_Heap_made k))
theorem heap_Heap_Objects_is : d_heap_Heap_Objects = s_heap_Heap_Objects :=
  is_f (by simp only [d_heap_Heap_Objects, hide_eq]; rfl) fun k => by rw [d_heap_Heap_Objects_eq, heap_Heap_between_is, heap_Heap_made_is]; exact W_pi_eq _

noncomputable def s_side_Table_Set : Nat → T_pii
  | 0 => fun _ _ _ _ => none
  | k + 1 => W_pii (b_side_Table_Set k (s_side_Table_check k) (s_side_Table_put k))
theorem side_Table_Set_is : d_side_Table_Set = s_side_Table_Set :=
  is_f (by simp only [d_side_Table_Set, hide_eq]; rfl) fun k => by rw [d_side_Table_Set_eq, side_Table_check_is, side_Table_put_is]; exact W_pii_eq _

noncomputable def s_heap_Heap_size : Nat → T_pi
  | 0 => fun _ _ _ => none
  | k + 1 => W_pi (b_heap_Heap_size k (s_heap_Words k) (s_heap_shape k))
theorem heap_Heap_size_is : d_heap_Heap_size = s_heap_Heap_size :=
  is_f (by simp only [d_heap_Heap_size, hide_eq]; rfl) fun k => by rw [d_heap_Heap_size_eq, heap_Words_is, heap_shape_is]; exact W_pi_eq _

noncomputable def s_heap_Heap_wipe : Nat → T_pii
  | 0 => fun _ _ _ _ => none
  | k + 1 => W_pii (b_heap_Heap_wipe k )
theorem heap_Heap_wipe_is : d_heap_Heap_wipe = s_heap_Heap_wipe :=
  is_f (by simp only [d_heap_Heap_wipe, hide_eq]; rfl) fun k => by rw [d_heap_Heap_wipe_eq]; exact W_pii_eq _

noncomputable def s_heap_Heap_Kill : Nat → T_pi
  | 0 => fun _ _ _ => none
  | k + 1 => W_pi (b_heap_Heap_Kill k (s_heap_Heap_object k) (s_heap_Heap_size k) (s_heap_Heap_wipe k) (s_side_Table_Set k))
theorem heap_Heap_Kill_is : d_heap_Heap_Kill = s_heap_Heap_Kill :=
  is_f (by simp only [d_heap_Heap_Kill, hide_eq]; rfl) fun k => by rw [d_heap_Heap_Kill_eq, heap_Heap_object_is, heap_Heap_size_is, heap_Heap_wipe_is, side_Table_Set_is]; exact W_pi_eq _

noncomputable def s_heap_Heap_there : Nat → T_pi
  | 0 => fun _ _ _ => none
  | k + 1 => W_pi (b_heap_Heap_there k (s_heap_Heap_made k))
theorem heap_Heap_there_is : d_heap_Heap_there = s_heap_Heap_there :=
  is_f (by simp only [d_heap_Heap_there, hide_eq]; rfl) fun k => by rw [d_heap_Heap_there_eq, heap_Heap_made_is]; exact W_pi_eq _

def W_pib (f : T_pib) : T_pib := fun x0 x1 x2 σ => fP x0 fun x0 => fI x1 fun x1 => fB x2 fun x2 => fL σ fun σ => f x0 x1 x2 σ
theorem W_pib_eq (f : T_pib) : f = W_pib f := by funext _ _ _ _; simp only [W_pib, strA]

noncomputable def s_heap_Heap_held : Nat → T_pib
  | 0 => fun _ _ _ _ => none
  | k + 1 => W_pib (b_heap_Heap_held k (s_heap_Heap_made k) (s_heap_Heap_there k))
theorem heap_Heap_held_is : d_heap_Heap_held = s_heap_Heap_held :=
  is_f (by simp only [d_heap_Heap_held, hide_eq]; rfl) fun k => by rw [d_heap_Heap_held_eq, heap_Heap_made_is, heap_Heap_there_is]; exact W_pib_eq _

noncomputable def s_heap_Heap_span_l0 (k n : Nat) : M_pii := Nat.rec (fun _ _ _ _ => none) (fun _ ih => Y_pii (b_heap_Heap_span_l0 k  ih)) n
theorem heap_Heap_span_l0_is : d_heap_Heap_span_l0 = s_heap_Heap_span_l0 :=
  is_l (fun k => by simp only [d_heap_Heap_span_l0, hide_eq]; rfl) fun k n ih => by rw [d_heap_Heap_span_l0_eq, ih]; exact Y_pii_eq _

noncomputable def s_heap_Heap_span : Nat → T_pi
  | 0 => fun _ _ _ => none
  | k + 1 => W_pi (b_heap_Heap_span k (s_heap_Heap_span_l0 k))
theorem heap_Heap_span_is : d_heap_Heap_span = s_heap_Heap_span :=
  is_f (by simp only [d_heap_Heap_span, hide_eq]; rfl) fun k => by rw [d_heap_Heap_span_eq, heap_Heap_span_l0_is]; exact W_pi_eq _

noncomputable def s_heap_Heap_Release_l0 (k n : Nat) : M_pii := Nat.rec (fun _ _ _ _ => none) (fun _ ih => Y_pii (b_heap_Heap_Release_l0 k  ih)) n
theorem heap_Heap_Release_l0_is : d_heap_Heap_Release_l0 = s_heap_Heap_Release_l0 :=
  is_l (fun k => by simp only [d_heap_Heap_Release_l0, hide_eq]; rfl) fun k n ih => by rw [d_heap_Heap_Release_l0_eq, ih]; exact Y_pii_eq _

noncomputable def s_heap_Heap_Release : Nat → T_pi
  | 0 => fun _ _ _ => none
  | k + 1 => W_pi (b_heap_Heap_Release k (s_heap_Heap_Objects k) (s_heap_Heap_Release_l0 k) (s_heap_Heap_held k) (s_heap_Heap_span k))
theorem heap_Heap_Release_is : d_heap_Heap_Release = s_heap_Heap_Release :=
  is_f (by simp only [d_heap_Heap_Release, hide_eq]; rfl) fun k => by rw [d_heap_Heap_Release_eq, heap_Heap_Objects_is, heap_Heap_Release_l0_is, heap_Heap_held_is, heap_Heap_span_is]; exact W_pi_eq _

noncomputable def s_sweep_Collect_c1 : Nat → T_ip
  | 0 => fun _ _ _ => none
  | k + 1 => W_ip (b_sweep_Collect_c1 k )
theorem sweep_Collect_c1_is : d_sweep_Collect_c1 = s_sweep_Collect_c1 :=
  is_f (by simp only [d_sweep_Collect_c1, hide_eq]; rfl) fun k => by rw [d_sweep_Collect_c1_eq]; exact W_ip_eq _

theorem sweep_Collect_c1_raw (k : Nat) (x0 : Int) (c0 : Option Addr) (σ : AMem) : fn P (XK Kn.b) H k 97 [.int .i64 x0, .pointer c0] σ = d_sweep_Collect_c1 k x0 c0 σ := by
  simp only [d_sweep_Collect_c1, hide_eq]

noncomputable def s_sweep_Sweeper_sweep_c2 : Nat → T_ip
  | 0 => fun _ _ _ => none
  | k + 1 => W_ip (b_sweep_Sweeper_sweep_c2 k )
theorem sweep_Sweeper_sweep_c2_is : d_sweep_Sweeper_sweep_c2 = s_sweep_Sweeper_sweep_c2 :=
  is_f (by simp only [d_sweep_Sweeper_sweep_c2, hide_eq]; rfl) fun k => by rw [d_sweep_Sweeper_sweep_c2_eq]; exact W_ip_eq _

theorem sweep_Sweeper_sweep_c2_raw (k : Nat) (x0 : Int) (c0 : Option Addr) (σ : AMem) : fn P (XK Kn.b) H k 196 [.int .i64 x0, .pointer c0] σ = d_sweep_Sweeper_sweep_c2 k x0 c0 σ := by
  simp only [d_sweep_Sweeper_sweep_c2, hide_eq]

noncomputable def s_heap_Heap_Gaps_c1 : Nat → T_ipp
  | 0 => fun _ _ _ _ => none
  | k + 1 => W_ipp (b_heap_Heap_Gaps_c1 k )
theorem heap_Heap_Gaps_c1_is : d_heap_Heap_Gaps_c1 = s_heap_Heap_Gaps_c1 :=
  is_f (by simp only [d_heap_Heap_Gaps_c1, hide_eq]; rfl) fun k => by rw [d_heap_Heap_Gaps_c1_eq]; exact W_ipp_eq _

theorem heap_Heap_Gaps_c1_raw (k : Nat) (x0 : Int) (c0 : Option Addr) (c1 : Option Addr) (σ : AMem) : fn P (XK Kn.b) H k 236 [.int .i64 x0, .pointer c0, .pointer c1] σ = d_heap_Heap_Gaps_c1 k x0 c0 c1 σ := by
  simp only [d_heap_Heap_Gaps_c1, hide_eq]

noncomputable def s_callN_i_0 (k : Nat) (n : FuncId) (l : List Value) (σ : AMem) : Option (Value × AMem) :=
  if n = 97 then (match l with
    | [.int .i64 y1, .pointer y2] => s_sweep_Collect_c1 k y1 y2 σ
    | l => fn P (XK Kn.b) H k 97 l σ) else
  if n = 196 then (match l with
    | [.int .i64 y1, .pointer y2] => s_sweep_Sweeper_sweep_c2 k y1 y2 σ
    | l => fn P (XK Kn.b) H k 196 l σ) else
  if n = 236 then (match l with
    | [.int .i64 y1, .pointer y2, .pointer y3] => s_heap_Heap_Gaps_c1 k y1 y2 y3 σ
    | l => fn P (XK Kn.b) H k 236 l σ) else
  fn P (XK Kn.b) H k n l σ

theorem callN_i_0_is (k : Nat) (n : FuncId) (l : List Value) (σ : AMem) : fn P (XK Kn.b) H k n l σ = s_callN_i_0 k n l σ := by
  unfold s_callN_i_0
  split
  · rename_i hn; subst hn
    split
    · rw [sweep_Collect_c1_raw, sweep_Collect_c1_is]
    · rfl
  split
  · rename_i hn; subst hn
    split
    · rw [sweep_Sweeper_sweep_c2_raw, sweep_Sweeper_sweep_c2_is]
    · rfl
  split
  · rename_i hn; subst hn
    split
    · rw [heap_Heap_Gaps_c1_raw, heap_Heap_Gaps_c1_is]
    · rfl
  rfl

noncomputable def s_callV_i_0 (k : Nat) (f : Value) (args : List Value) (σ : AMem) : Option (Value × AMem) := match f with
  | .func (.func n) first cap => bif Nat.beq n YF then none else s_callN_i_0 k n (first.toList ++ args ++ cap.toList) σ
  | .func (.yield h) _ _ => fn P (XK Kn.b) H k YF (.pointer (some ⟨h, 0, none⟩) :: args) σ
  | .func (.method nm) first _ => (match first.toList ++ args with
    | .iface t v :: rest => (methodF P t nm).bind fun n => bif Nat.beq n YF then none else s_callN_i_0 k n (v :: rest) σ
    | _ => none)
  | _ => none

theorem callV_i_0_is : d_callV_i_0 = s_callV_i_0 := by
  funext k f args σ
  simp only [d_callV_i_0, hide_eq]
  unfold callVal s_callV_i_0
  simp only [callN_i_0_is]
  rfl

def Y_ppvpnnii (f : M_ppvpnnii) : M_ppvpnnii := fun x0 x1 x2 x3 x4 x5 x6 x7 σ => fP x0 fun x0 => fP x1 fun x1 => fP x3 fun x3 => fN x4 fun x4 => fN x5 fun x5 => fI x6 fun x6 => fI x7 fun x7 => fL σ fun σ => f x0 x1 x2 x3 x4 x5 x6 x7 σ
theorem Y_ppvpnnii_eq (f : M_ppvpnnii) : f = Y_ppvpnnii f := by funext _ _ _ _ _ _ _ _ _; simp only [Y_ppvpnnii, strA]

noncomputable def s_sweep_block_l0 (k n : Nat) : M_ppvpnnii := Nat.rec (fun _ _ _ _ _ _ _ _ _ => none) (fun _ ih => Y_ppvpnnii (b_sweep_block_l0 k (s_callV_i_0 k) (s_heap_Heap_Kill k) (s_heap_Heap_Shape k) (s_heap_Words k) (s_trace_Marked k) ih)) n
theorem sweep_block_l0_is : d_sweep_block_l0 = s_sweep_block_l0 :=
  is_l (fun k => by simp only [d_sweep_block_l0, hide_eq]; rfl) fun k n ih => by rw [d_sweep_block_l0_eq, callV_i_0_is, heap_Heap_Kill_is, heap_Heap_Shape_is, heap_Words_is, trace_Marked_is, ih]; exact Y_ppvpnnii_eq _

def W_ppiv (f : T_ppiv) : T_ppiv := fun x0 x1 x2 x3 σ => fP x0 fun x0 => fP x1 fun x1 => fI x2 fun x2 => fL σ fun σ => f x0 x1 x2 x3 σ
theorem W_ppiv_eq (f : T_ppiv) : f = W_ppiv f := by funext _ _ _ _ _; simp only [W_ppiv, strA]

noncomputable def s_sweep_block : Nat → T_ppiv
  | 0 => fun _ _ _ _ _ => none
  | k + 1 => W_ppiv (b_sweep_block k (s_heap_Heap_Objects k) (s_heap_Heap_Release k) (s_sweep_block_l0 k) (s_sweep_held k))
theorem sweep_block_is : d_sweep_block = s_sweep_block :=
  is_f (by simp only [d_sweep_block, hide_eq]; rfl) fun k => by rw [d_sweep_block_eq, heap_Heap_Objects_is, heap_Heap_Release_is, sweep_block_l0_is, sweep_held_is]; exact W_ppiv_eq _

def Y_ppnniii (f : M_ppnniii) : M_ppnniii := fun x0 x1 x2 x3 x4 x5 x6 σ => fP x0 fun x0 => fP x1 fun x1 => fN x2 fun x2 => fN x3 fun x3 => fI x4 fun x4 => fI x5 fun x5 => fI x6 fun x6 => fL σ fun σ => f x0 x1 x2 x3 x4 x5 x6 σ
theorem Y_ppnniii_eq (f : M_ppnniii) : f = Y_ppnniii f := by funext _ _ _ _ _ _ _ _; simp only [Y_ppnniii, strA]

noncomputable def s_heap_Heap_Used_l0 (k n : Nat) : M_ppnniii := Nat.rec (fun _ _ _ _ _ _ _ _ => none) (fun _ ih => Y_ppnniii (b_heap_Heap_Used_l0 k (s_heap_Heap_size k) ih)) n
theorem heap_Heap_Used_l0_is : d_heap_Heap_Used_l0 = s_heap_Heap_Used_l0 :=
  is_l (fun k => by simp only [d_heap_Heap_Used_l0, hide_eq]; rfl) fun k n ih => by rw [d_heap_Heap_Used_l0_eq, heap_Heap_size_is, ih]; exact Y_ppnniii_eq _

noncomputable def s_heap_Heap_Used : Nat → T_p
  | 0 => fun _ _ => none
  | k + 1 => W_p (b_heap_Heap_Used k (s_heap_Heap_All k) (s_heap_Heap_Used_l0 k))
theorem heap_Heap_Used_is : d_heap_Heap_Used = s_heap_Heap_Used :=
  is_f (by simp only [d_heap_Heap_Used, hide_eq]; rfl) fun k => by rw [d_heap_Heap_Used_eq, heap_Heap_All_is, heap_Heap_Used_l0_is]; exact W_p_eq _

def Y_ppnii (f : M_ppnii) : M_ppnii := fun x0 x1 x2 x3 x4 σ => fP x0 fun x0 => fP x1 fun x1 => fN x2 fun x2 => fI x3 fun x3 => fI x4 fun x4 => fL σ fun σ => f x0 x1 x2 x3 x4 σ
theorem Y_ppnii_eq (f : M_ppnii) : f = Y_ppnii f := by funext _ _ _ _ _ _; simp only [Y_ppnii, strA]

noncomputable def s_sweep_Collect_l0 (k n : Nat) : M_ppnii := Nat.rec (fun _ _ _ _ _ _ => none) (fun _ ih => Y_ppnii (b_sweep_Collect_l0 k (s_sweep_block k) ih)) n
theorem sweep_Collect_l0_is : d_sweep_Collect_l0 = s_sweep_Collect_l0 :=
  is_l (fun k => by simp only [d_sweep_Collect_l0, hide_eq]; rfl) fun k n ih => by rw [d_sweep_Collect_l0_eq, sweep_block_is, ih]; exact Y_ppnii_eq _

noncomputable def s_sweep_Collect : Nat → T_pp
  | 0 => fun _ _ _ => none
  | k + 1 => W_pp (b_sweep_Collect k (s_heap_Heap_All k) (s_heap_Heap_Blocks k) (s_heap_Heap_Used k) (s_sound_Is k) (s_sweep_Collect_l0 k) (s_trace_Clear k) (s_trace_Mark k))
theorem sweep_Collect_is : d_sweep_Collect = s_sweep_Collect :=
  is_f (by simp only [d_sweep_Collect, hide_eq]; rfl) fun k => by rw [d_sweep_Collect_eq, heap_Heap_All_is, heap_Heap_Blocks_is, heap_Heap_Used_is, sound_Is_is, sweep_Collect_l0_is, trace_Clear_is, trace_Mark_is]; exact W_pp_eq _

noncomputable def s_sweep_Sweeper_sweep : Nat → T_pi
  | 0 => fun _ _ _ => none
  | k + 1 => W_pi (b_sweep_Sweeper_sweep k (s_slices_DeleteFunc_int k) (s_sweep_block k))
theorem sweep_Sweeper_sweep_is : d_sweep_Sweeper_sweep = s_sweep_Sweeper_sweep :=
  is_f (by simp only [d_sweep_Sweeper_sweep, hide_eq]; rfl) fun k => by rw [d_sweep_Sweeper_sweep_eq, slices_DeleteFunc_int_is, sweep_block_is]; exact W_pi_eq _

noncomputable def s_sweep_Sweeper_Block : Nat → T_pi
  | 0 => fun _ _ _ => none
  | k + 1 => W_pi (b_sweep_Sweeper_Block k (s_slices_Contains_int k) (s_sweep_Sweeper_made k) (s_sweep_Sweeper_sweep k))
theorem sweep_Sweeper_Block_is : d_sweep_Sweeper_Block = s_sweep_Sweeper_Block :=
  is_f (by simp only [d_sweep_Sweeper_Block, hide_eq]; rfl) fun k => by rw [d_sweep_Sweeper_Block_eq, slices_Contains_int_is, sweep_Sweeper_made_is, sweep_Sweeper_sweep_is]; exact W_pi_eq _

noncomputable def s_alloc_Allocator_made : Nat → T_p
  | 0 => fun _ _ => none
  | k + 1 => W_p (b_alloc_Allocator_made k )
theorem alloc_Allocator_made_is : d_alloc_Allocator_made = s_alloc_Allocator_made :=
  is_f (by simp only [d_alloc_Allocator_made, hide_eq]; rfl) fun k => by rw [d_alloc_Allocator_made_eq]; exact W_p_eq _

def W_ (f : T_) : T_ := fun  σ => fL σ fun σ => f  σ
theorem W__eq (f : T_) : f = W_ f := by funext  _; simp only [W_, strA]

noncomputable def s_alloc_policies : Nat → T_
  | 0 => fun  _ => none
  | k + 1 => W_ (b_alloc_policies k )
theorem alloc_policies_is : d_alloc_policies = s_alloc_policies :=
  is_f (by simp only [d_alloc_policies, hide_eq]; rfl) fun k => by rw [d_alloc_policies_eq]; exact W__eq _

noncomputable def s_heap_Heap_Space : Nat → T_pi
  | 0 => fun _ _ _ => none
  | k + 1 => W_pi (b_heap_Heap_Space k (s_heap_Heap_Blocks k))
theorem heap_Heap_Space_is : d_heap_Heap_Space = s_heap_Heap_Space :=
  is_f (by simp only [d_heap_Heap_Space, hide_eq]; rfl) fun k => by rw [d_heap_Heap_Space_eq, heap_Heap_Blocks_is]; exact W_pi_eq _

noncomputable def s_side_Table_Last_l0 (k n : Nat) : M_pii := Nat.rec (fun _ _ _ _ => none) (fun _ ih => Y_pii (b_side_Table_Last_l0 k (s_side_Table_get k) ih)) n
theorem side_Table_Last_l0_is : d_side_Table_Last_l0 = s_side_Table_Last_l0 :=
  is_l (fun k => by simp only [d_side_Table_Last_l0, hide_eq]; rfl) fun k n ih => by rw [d_side_Table_Last_l0_eq, side_Table_get_is, ih]; exact Y_pii_eq _

noncomputable def s_side_Table_Last : Nat → T_pii
  | 0 => fun _ _ _ _ => none
  | k + 1 => W_pii (b_side_Table_Last k (s_side_Table_Last_l0 k) (s_side_Table_made k))
theorem side_Table_Last_is : d_side_Table_Last = s_side_Table_Last :=
  is_f (by simp only [d_side_Table_Last, hide_eq]; rfl) fun k => by rw [d_side_Table_Last_eq, side_Table_Last_l0_is, side_Table_made_is]; exact W_pii_eq _

noncomputable def s_heap_Heap_Find : Nat → T_pi
  | 0 => fun _ _ _ => none
  | k + 1 => W_pi (b_heap_Heap_Find k (s_heap_Heap_made k) (s_heap_Heap_size k) (s_side_Table_Last k))
theorem heap_Heap_Find_is : d_heap_Heap_Find = s_heap_Heap_Find :=
  is_f (by simp only [d_heap_Heap_Find, hide_eq]; rfl) fun k => by rw [d_heap_Heap_Find_eq, heap_Heap_made_is, heap_Heap_size_is, side_Table_Last_is]; exact W_pi_eq _

def Y_piiii (f : M_piiii) : M_piiii := fun x0 x1 x2 x3 x4 σ => fP x0 fun x0 => fI x1 fun x1 => fI x2 fun x2 => fI x3 fun x3 => fI x4 fun x4 => fL σ fun σ => f x0 x1 x2 x3 x4 σ
theorem Y_piiii_eq (f : M_piiii) : f = Y_piiii f := by funext _ _ _ _ _ _; simp only [Y_piiii, strA]

noncomputable def s_heap_Heap_fits_l0 (k n : Nat) : M_piiii := Nat.rec (fun _ _ _ _ _ _ => none) (fun _ ih => Y_piiii (b_heap_Heap_fits_l0 k (s_heap_Heap_Find k) ih)) n
theorem heap_Heap_fits_l0_is : d_heap_Heap_fits_l0 = s_heap_Heap_fits_l0 :=
  is_l (fun k => by simp only [d_heap_Heap_fits_l0, hide_eq]; rfl) fun k n ih => by rw [d_heap_Heap_fits_l0_eq, heap_Heap_Find_is, ih]; exact Y_piiii_eq _

noncomputable def s_heap_Heap_fits : Nat → T_piii
  | 0 => fun _ _ _ _ _ => none
  | k + 1 => W_piii (b_heap_Heap_fits k (s_heap_Heap_fits_l0 k) (s_heap_Heap_span k))
theorem heap_Heap_fits_is : d_heap_Heap_fits = s_heap_Heap_fits :=
  is_f (by simp only [d_heap_Heap_fits, hide_eq]; rfl) fun k => by rw [d_heap_Heap_fits_eq, heap_Heap_fits_l0_is, heap_Heap_span_is]; exact W_piii_eq _

noncomputable def s_heap_number : Nat → T_iii
  | 0 => fun _ _ _ _ => none
  | k + 1 => W_iii (b_heap_number k )
theorem heap_number_is : d_heap_number = s_heap_number :=
  is_f (by simp only [d_heap_number, hide_eq]; rfl) fun k => by rw [d_heap_number_eq]; exact W_iii_eq _

def W_piiii (f : T_piiii) : T_piiii := fun x0 x1 x2 x3 x4 σ => fP x0 fun x0 => fI x1 fun x1 => fI x2 fun x2 => fI x3 fun x3 => fI x4 fun x4 => fL σ fun σ => f x0 x1 x2 x3 x4 σ
theorem W_piiii_eq (f : T_piiii) : f = W_piiii f := by funext _ _ _ _ _ _; simp only [W_piiii, strA]

noncomputable def s_heap_Heap_Place : Nat → T_piiii
  | 0 => fun _ _ _ _ _ _ => none
  | k + 1 => W_piiii (b_heap_Heap_Place k (s_heap_Heap_fits k) (s_heap_Heap_made k) (s_heap_Valid k) (s_heap_Words k) (s_heap_number k) (s_side_Table_Set k))
theorem heap_Heap_Place_is : d_heap_Heap_Place = s_heap_Heap_Place :=
  is_f (by simp only [d_heap_Heap_Place, hide_eq]; rfl) fun k => by rw [d_heap_Heap_Place_eq, heap_Heap_fits_is, heap_Heap_made_is, heap_Valid_is, heap_Words_is, heap_number_is, side_Table_Set_is]; exact W_piiii_eq _

noncomputable def s_heap_space : Nat → T_i
  | 0 => fun _ _ => none
  | k + 1 => W_i (b_heap_space k )
theorem heap_space_is : d_heap_space = s_heap_space :=
  is_f (by simp only [d_heap_space, hide_eq]; rfl) fun k => by rw [d_heap_space_eq]; exact W_i_eq _

noncomputable def s_heap_Heap_claim_c1 : Nat → T_ii
  | 0 => fun _ _ _ => none
  | k + 1 => W_ii (b_heap_Heap_claim_c1 k )
theorem heap_Heap_claim_c1_is : d_heap_Heap_claim_c1 = s_heap_Heap_claim_c1 :=
  is_f (by simp only [d_heap_Heap_claim_c1, hide_eq]; rfl) fun k => by rw [d_heap_Heap_claim_c1_eq]; exact W_ii_eq _

theorem heap_Heap_claim_c1_raw (k : Nat) (x0_0 : Int) (x0_1 : Int) (σ : AMem) : fn P (XK Kn.b) H k 252 [.agg #[.int .i64 x0_0, .int .i64 x0_1]] σ = d_heap_Heap_claim_c1 k x0_0 x0_1 σ := by
  simp only [d_heap_Heap_claim_c1, hide_eq]

noncomputable def s_callN_ii_tx (k : Nat) (n : FuncId) (l : List Value) (σ : AMem) : Option (Value × AMem) :=
  if n = 252 then (match l with
    | [.agg ⟨[.int .i64 y1, .int .i64 y2]⟩] => s_heap_Heap_claim_c1 k y1 y2 σ
    | l => fn P (XK Kn.b) H k 252 l σ) else
  fn P (XK Kn.b) H k n l σ

theorem callN_ii_tx_is (k : Nat) (n : FuncId) (l : List Value) (σ : AMem) : fn P (XK Kn.b) H k n l σ = s_callN_ii_tx k n l σ := by
  unfold s_callN_ii_tx
  split
  · rename_i hn; subst hn
    split
    · rw [heap_Heap_claim_c1_raw, heap_Heap_claim_c1_is]
    · rfl
  rfl

noncomputable def s_callV_ii_tx (k : Nat) (f : Value) (args : List Value) (σ : AMem) : Option (Value × AMem) := match f with
  | .func (.func n) first cap => bif Nat.beq n YF then none else s_callN_ii_tx k n (first.toList ++ args ++ cap.toList) σ
  | .func (.yield h) _ _ => fn P (XK Kn.b) H k YF (.pointer (some ⟨h, 0, none⟩) :: args) σ
  | .func (.method nm) first _ => (match first.toList ++ args with
    | .iface t v :: rest => (methodF P t nm).bind fun n => bif Nat.beq n YF then none else s_callN_ii_tx k n (v :: rest) σ
    | _ => none)
  | _ => none

theorem callV_ii_tx_is : d_callV_ii_tx = s_callV_ii_tx := by
  funext k f args σ
  simp only [d_callV_ii_tx, hide_eq]
  unfold callVal s_callV_ii_tx
  simp only [callN_ii_tx_is]
  rfl

noncomputable def s_slices_IndexFunc_heap_block_l0 (k n : Nat) : M_pnnvii := Nat.rec (fun _ _ _ _ _ _ _ => none) (fun _ ih => Y_pnnvii (b_slices_IndexFunc_heap_block_l0 k (s_callV_ii_tx k) ih)) n
theorem slices_IndexFunc_heap_block_l0_is : d_slices_IndexFunc_heap_block_l0 = s_slices_IndexFunc_heap_block_l0 :=
  is_l (fun k => by simp only [d_slices_IndexFunc_heap_block_l0, hide_eq]; rfl) fun k n ih => by rw [d_slices_IndexFunc_heap_block_l0_eq, callV_ii_tx_is, ih]; exact Y_pnnvii_eq _

noncomputable def s_slices_IndexFunc_heap_block : Nat → T_lv
  | 0 => fun _ _ _ => none
  | k + 1 => W_lv (b_slices_IndexFunc_heap_block k (s_slices_IndexFunc_heap_block_l0 k))
theorem slices_IndexFunc_heap_block_is : d_slices_IndexFunc_heap_block = s_slices_IndexFunc_heap_block :=
  is_f (by simp only [d_slices_IndexFunc_heap_block, hide_eq]; rfl) fun k => by rw [d_slices_IndexFunc_heap_block_eq, slices_IndexFunc_heap_block_l0_is]; exact W_lv_eq _

noncomputable def s_slices_ContainsFunc_heap_block : Nat → T_lv
  | 0 => fun _ _ _ => none
  | k + 1 => W_lv (b_slices_ContainsFunc_heap_block k (s_slices_IndexFunc_heap_block k))
theorem slices_ContainsFunc_heap_block_is : d_slices_ContainsFunc_heap_block = s_slices_ContainsFunc_heap_block :=
  is_f (by simp only [d_slices_ContainsFunc_heap_block, hide_eq]; rfl) fun k => by rw [d_slices_ContainsFunc_heap_block_eq, slices_IndexFunc_heap_block_is]; exact W_lv_eq _

def Y_pinii (f : M_pinii) : M_pinii := fun x0 x1 x2 x3 x4 σ => fP x0 fun x0 => fI x1 fun x1 => fN x2 fun x2 => fI x3 fun x3 => fI x4 fun x4 => fL σ fun σ => f x0 x1 x2 x3 x4 σ
theorem Y_pinii_eq (f : M_pinii) : f = Y_pinii f := by funext _ _ _ _ _ _; simp only [Y_pinii, strA]

noncomputable def s_heap_Heap_claim_l0 (k n : Nat) : M_pinii := Nat.rec (fun _ _ _ _ _ _ => none) (fun _ ih => Y_pinii (b_heap_Heap_claim_l0 k  ih)) n
theorem heap_Heap_claim_l0_is : d_heap_Heap_claim_l0 = s_heap_Heap_claim_l0 :=
  is_l (fun k => by simp only [d_heap_Heap_claim_l0, hide_eq]; rfl) fun k n ih => by rw [d_heap_Heap_claim_l0_eq, ih]; exact Y_pinii_eq _

def W_piiiiii (f : T_piiiiii) : T_piiiiii := fun x0 x1 x2 x3 x4 x5 x6 σ => fP x0 fun x0 => fI x1 fun x1 => fI x2 fun x2 => fI x3 fun x3 => fI x4 fun x4 => fI x5 fun x5 => fI x6 fun x6 => fL σ fun σ => f x0 x1 x2 x3 x4 x5 x6 σ
theorem W_piiiiii_eq (f : T_piiiiii) : f = W_piiiiii f := by funext _ _ _ _ _ _ _ _; simp only [W_piiiiii, strA]

noncomputable def s_heap_Heap_claim : Nat → T_piiiiii
  | 0 => fun _ _ _ _ _ _ _ _ => none
  | k + 1 => W_piiiiii (b_heap_Heap_claim k (s_heap_Heap_claim_l0 k) (s_heap_Heap_made k) (s_heap_Heap_there k) (s_heap_space k) (s_slices_ContainsFunc_heap_block k))
theorem heap_Heap_claim_is : d_heap_Heap_claim = s_heap_Heap_claim :=
  is_f (by simp only [d_heap_Heap_claim, hide_eq]; rfl) fun k => by rw [d_heap_Heap_claim_eq, heap_Heap_claim_l0_is, heap_Heap_made_is, heap_Heap_there_is, heap_space_is, slices_ContainsFunc_heap_block_is]; exact W_piiiiii_eq _

noncomputable def s_heap_Heap_ClaimLarge : Nat → T_piii
  | 0 => fun _ _ _ _ _ => none
  | k + 1 => W_piii (b_heap_Heap_ClaimLarge k (s_heap_Heap_claim k))
theorem heap_Heap_ClaimLarge_is : d_heap_Heap_ClaimLarge = s_heap_Heap_ClaimLarge :=
  is_f (by simp only [d_heap_Heap_ClaimLarge, hide_eq]; rfl) fun k => by rw [d_heap_Heap_ClaimLarge_eq, heap_Heap_claim_is]; exact W_piii_eq _

noncomputable def s_alloc_Allocator_large_l0 (k n : Nat) : M_pii := Nat.rec (fun _ _ _ _ => none) (fun _ ih => Y_pii (b_alloc_Allocator_large_l0 k (s_heap_Heap_Blocks k) (s_heap_Heap_ClaimLarge k) ih)) n
theorem alloc_Allocator_large_l0_is : d_alloc_Allocator_large_l0 = s_alloc_Allocator_large_l0 :=
  is_l (fun k => by simp only [d_alloc_Allocator_large_l0, hide_eq]; rfl) fun k n ih => by rw [d_alloc_Allocator_large_l0_eq, heap_Heap_Blocks_is, heap_Heap_ClaimLarge_is, ih]; exact Y_pii_eq _

noncomputable def s_alloc_Allocator_large : Nat → T_pi
  | 0 => fun _ _ _ => none
  | k + 1 => W_pi (b_alloc_Allocator_large k (s_alloc_Allocator_large_l0 k))
theorem alloc_Allocator_large_is : d_alloc_Allocator_large = s_alloc_Allocator_large :=
  is_f (by simp only [d_alloc_Allocator_large, hide_eq]; rfl) fun k => by rw [d_alloc_Allocator_large_eq, alloc_Allocator_large_l0_is]; exact W_pi_eq _

theorem alloc_Allocator_large_raw (k : Nat) (x0 : Option Addr) (x1 : Int) (σ : AMem) : fn P (XK Kn.b) H k 156 [.pointer x0, .int .i64 x1] σ = d_alloc_Allocator_large k x0 x1 σ := by
  simp only [d_alloc_Allocator_large, hide_eq]

noncomputable def s_heap_Heap_Claim : Nat → T_pii
  | 0 => fun _ _ _ _ => none
  | k + 1 => W_pii (b_heap_Heap_Claim k (s_heap_Heap_claim k))
theorem heap_Heap_Claim_is : d_heap_Heap_Claim = s_heap_Heap_Claim :=
  is_f (by simp only [d_heap_Heap_Claim, hide_eq]; rfl) fun k => by rw [d_heap_Heap_Claim_eq, heap_Heap_claim_is]; exact W_pii_eq _

def Y_pni (f : M_pni) : M_pni := fun x0 x1 x2 σ => fP x0 fun x0 => fN x1 fun x1 => fI x2 fun x2 => fL σ fun σ => f x0 x1 x2 σ
theorem Y_pni_eq (f : M_pni) : f = Y_pni f := by funext _ _ _ _; simp only [Y_pni, strA]

noncomputable def s_alloc_Allocator_begin_l0 (k n : Nat) : M_pni := Nat.rec (fun _ _ _ _ => none) (fun _ ih => Y_pni (b_alloc_Allocator_begin_l0 k (s_heap_Heap_Blocks k) (s_heap_Heap_Claim k) ih)) n
theorem alloc_Allocator_begin_l0_is : d_alloc_Allocator_begin_l0 = s_alloc_Allocator_begin_l0 :=
  is_l (fun k => by simp only [d_alloc_Allocator_begin_l0, hide_eq]; rfl) fun k n ih => by rw [d_alloc_Allocator_begin_l0_eq, heap_Heap_Blocks_is, heap_Heap_Claim_is, ih]; exact Y_pni_eq _

noncomputable def s_alloc_Allocator_begin : Nat → T_p
  | 0 => fun _ _ => none
  | k + 1 => W_p (b_alloc_Allocator_begin k (s_alloc_Allocator_begin_l0 k))
theorem alloc_Allocator_begin_is : d_alloc_Allocator_begin = s_alloc_Allocator_begin :=
  is_f (by simp only [d_alloc_Allocator_begin, hide_eq]; rfl) fun k => by rw [d_alloc_Allocator_begin_eq, alloc_Allocator_begin_l0_is]; exact W_p_eq _

def W_pl (f : T_pl) : T_pl := fun x0 x1 σ => fP x0 fun x0 => fS x1 fun x1 => fL σ fun σ => f x0 x1 σ
theorem W_pl_eq (f : T_pl) : f = W_pl f := by funext _ _ _; simp only [W_pl, strA]

noncomputable def s_alloc_Allocator_start : Nat → T_pl
  | 0 => fun _ _ _ => none
  | k + 1 => W_pl (b_alloc_Allocator_start k (s_alloc_Allocator_begin k))
theorem alloc_Allocator_start_is : d_alloc_Allocator_start = s_alloc_Allocator_start :=
  is_f (by simp only [d_alloc_Allocator_start, hide_eq]; rfl) fun k => by rw [d_alloc_Allocator_start_eq, alloc_Allocator_begin_is]; exact W_pl_eq _

noncomputable def s_heap_Heap_used : Nat → T_pi
  | 0 => fun _ _ _ => none
  | k + 1 => W_pi (b_heap_Heap_used k (s_heap_Heap_there k))
theorem heap_Heap_used_is : d_heap_Heap_used = s_heap_Heap_used :=
  is_f (by simp only [d_heap_Heap_used, hide_eq]; rfl) fun k => by rw [d_heap_Heap_used_eq, heap_Heap_there_is]; exact W_pi_eq _

def Y_pnnpnnii (f : M_pnnpnnii) : M_pnnpnnii := fun x0 x1 x2 x3 x4 x5 x6 x7 σ => fP x0 fun x0 => fN x1 fun x1 => fN x2 fun x2 => fP x3 fun x3 => fN x4 fun x4 => fN x5 fun x5 => fI x6 fun x6 => fI x7 fun x7 => fL σ fun σ => f x0 x1 x2 x3 x4 x5 x6 x7 σ
theorem Y_pnnpnnii_eq (f : M_pnnpnnii) : f = Y_pnnpnnii f := by funext _ _ _ _ _ _ _ _ _; simp only [Y_pnnpnnii, strA]

noncomputable def s_heap_Heap_Gaps_l0 (k n : Nat) : M_pnnpnnii := Nat.rec (fun _ _ _ _ _ _ _ _ _ => none) (fun _ ih => Y_pnnpnnii (b_heap_Heap_Gaps_l0 k (s_heap_Heap_Gaps_c1 k) (s_heap_Heap_size k) ih)) n
theorem heap_Heap_Gaps_l0_is : d_heap_Heap_Gaps_l0 = s_heap_Heap_Gaps_l0 :=
  is_l (fun k => by simp only [d_heap_Heap_Gaps_l0, hide_eq]; rfl) fun k n ih => by rw [d_heap_Heap_Gaps_l0_eq, heap_Heap_Gaps_c1_is, heap_Heap_size_is, ih]; exact Y_pnnpnnii_eq _

noncomputable def s_heap_Heap_Gaps : Nat → T_pi
  | 0 => fun _ _ _ => none
  | k + 1 => W_pi (b_heap_Heap_Gaps k (s_heap_Heap_Gaps_c1 k) (s_heap_Heap_Gaps_l0 k) (s_heap_Heap_Objects k) (s_heap_Heap_used k))
theorem heap_Heap_Gaps_is : d_heap_Heap_Gaps = s_heap_Heap_Gaps :=
  is_f (by simp only [d_heap_Heap_Gaps, hide_eq]; rfl) fun k => by rw [d_heap_Heap_Gaps_eq, heap_Heap_Gaps_c1_is, heap_Heap_Gaps_l0_is, heap_Heap_Objects_is, heap_Heap_used_is]; exact W_pi_eq _

def Y_pili (f : M_pili) : M_pili := fun x0 x1 x2 x3 σ => fP x0 fun x0 => fI x1 fun x1 => fS x2 fun x2 => fI x3 fun x3 => fL σ fun σ => f x0 x1 x2 x3 σ
theorem Y_pili_eq (f : M_pili) : f = Y_pili f := by funext _ _ _ _ _; simp only [Y_pili, strA]

noncomputable def s_alloc_Allocator_blocks_l0 (k n : Nat) : M_pili := Nat.rec (fun _ _ _ _ _ => none) (fun _ ih => Y_pili (b_alloc_Allocator_blocks_l0 k (s_heap_Heap_Space k) (s_heap_Heap_State k) ih)) n
theorem alloc_Allocator_blocks_l0_is : d_alloc_Allocator_blocks_l0 = s_alloc_Allocator_blocks_l0 :=
  is_l (fun k => by simp only [d_alloc_Allocator_blocks_l0, hide_eq]; rfl) fun k n ih => by rw [d_alloc_Allocator_blocks_l0_eq, heap_Heap_Space_is, heap_Heap_State_is, ih]; exact Y_pili_eq _

noncomputable def s_alloc_Allocator_blocks : Nat → T_p
  | 0 => fun _ _ => none
  | k + 1 => W_p (b_alloc_Allocator_blocks k (s_alloc_Allocator_blocks_l0 k) (s_heap_Heap_Blocks k))
theorem alloc_Allocator_blocks_is : d_alloc_Allocator_blocks = s_alloc_Allocator_blocks :=
  is_f (by simp only [d_alloc_Allocator_blocks, hide_eq]; rfl) fun k => by rw [d_alloc_Allocator_blocks_eq, alloc_Allocator_blocks_l0_is, heap_Heap_Blocks_is]; exact W_p_eq _

def Y_iipnnili (f : M_iipnnili) : M_iipnnili := fun x0 x1 x2 x3 x4 x5 x6 x7 σ => fI x0 fun x0 => fI x1 fun x1 => fP x2 fun x2 => fN x3 fun x3 => fN x4 fun x4 => fI x5 fun x5 => fS x6 fun x6 => fI x7 fun x7 => fL σ fun σ => f x0 x1 x2 x3 x4 x5 x6 x7 σ
theorem Y_iipnnili_eq (f : M_iipnnili) : f = Y_iipnnili f := by funext _ _ _ _ _ _ _ _ _; simp only [Y_iipnnili, strA]

noncomputable def s_alloc_Allocator_gaps_l1 (k n : Nat) : M_iipnnili := Nat.rec (fun _ _ _ _ _ _ _ _ _ => none) (fun _ ih => Y_iipnnili (b_alloc_Allocator_gaps_l1 k  ih)) n
theorem alloc_Allocator_gaps_l1_is : d_alloc_Allocator_gaps_l1 = s_alloc_Allocator_gaps_l1 :=
  is_l (fun k => by simp only [d_alloc_Allocator_gaps_l1, hide_eq]; rfl) fun k n ih => by rw [d_alloc_Allocator_gaps_l1_eq, ih]; exact Y_iipnnili_eq _

def Y_piipnnili (f : M_piipnnili) : M_piipnnili := fun x0 x1 x2 x3 x4 x5 x6 x7 x8 σ => fP x0 fun x0 => fI x1 fun x1 => fI x2 fun x2 => fP x3 fun x3 => fN x4 fun x4 => fN x5 fun x5 => fI x6 fun x6 => fS x7 fun x7 => fI x8 fun x8 => fL σ fun σ => f x0 x1 x2 x3 x4 x5 x6 x7 x8 σ
theorem Y_piipnnili_eq (f : M_piipnnili) : f = Y_piipnnili f := by funext _ _ _ _ _ _ _ _ _ _; simp only [Y_piipnnili, strA]

noncomputable def s_alloc_Allocator_gaps_l0 (k n : Nat) : M_piipnnili := Nat.rec (fun _ _ _ _ _ _ _ _ _ _ => none) (fun _ ih => Y_piipnnili (b_alloc_Allocator_gaps_l0 k (s_alloc_Allocator_gaps_l1 k) (s_heap_Heap_Gaps k) ih)) n
theorem alloc_Allocator_gaps_l0_is : d_alloc_Allocator_gaps_l0 = s_alloc_Allocator_gaps_l0 :=
  is_l (fun k => by simp only [d_alloc_Allocator_gaps_l0, hide_eq]; rfl) fun k n ih => by rw [d_alloc_Allocator_gaps_l0_eq, alloc_Allocator_gaps_l1_is, heap_Heap_Gaps_is, ih]; exact Y_piipnnili_eq _

noncomputable def s_alloc_Allocator_gaps : Nat → T_pii
  | 0 => fun _ _ _ _ => none
  | k + 1 => W_pii (b_alloc_Allocator_gaps k (s_alloc_Allocator_blocks k) (s_alloc_Allocator_gaps_l0 k))
theorem alloc_Allocator_gaps_is : d_alloc_Allocator_gaps = s_alloc_Allocator_gaps :=
  is_f (by simp only [d_alloc_Allocator_gaps, hide_eq]; rfl) fun k => by rw [d_alloc_Allocator_gaps_eq, alloc_Allocator_blocks_is, alloc_Allocator_gaps_l0_is]; exact W_pii_eq _

noncomputable def s_alloc_first_place : Nat → T_pi
  | 0 => fun _ _ _ => none
  | k + 1 => W_pi (b_alloc_first_place k (s_alloc_Allocator_gaps k) (s_alloc_Allocator_start k))
theorem alloc_first_place_is : d_alloc_first_place = s_alloc_first_place :=
  is_f (by simp only [d_alloc_first_place, hide_eq]; rfl) fun k => by rw [d_alloc_first_place_eq, alloc_Allocator_gaps_is, alloc_Allocator_start_is]; exact W_pi_eq _

theorem alloc_first_place_raw (k : Nat) (x1 : Option Addr) (x2 : Int) (σ : AMem) : fn P (XK Kn.b) H k 280 [.agg #[], .pointer x1, .int .i64 x2] σ = d_alloc_first_place k x1 x2 σ := by
  simp only [d_alloc_first_place, hide_eq]

def W_iiii (f : T_iiii) : T_iiii := fun x0 x1 x2 x3 σ => fI x0 fun x0 => fI x1 fun x1 => fI x2 fun x2 => fI x3 fun x3 => fL σ fun σ => f x0 x1 x2 x3 σ
theorem W_iiii_eq (f : T_iiii) : f = W_iiii f := by funext _ _ _ _ _; simp only [W_iiii, strA]

noncomputable def s_alloc_best_place_c1 : Nat → T_iiii
  | 0 => fun _ _ _ _ _ => none
  | k + 1 => W_iiii (b_alloc_best_place_c1 k )
theorem alloc_best_place_c1_is : d_alloc_best_place_c1 = s_alloc_best_place_c1 :=
  is_f (by simp only [d_alloc_best_place_c1, hide_eq]; rfl) fun k => by rw [d_alloc_best_place_c1_eq]; exact W_iiii_eq _

theorem alloc_best_place_c1_raw (k : Nat) (x0_0 : Int) (x0_1 : Int) (x1_0 : Int) (x1_1 : Int) (σ : AMem) : fn P (XK Kn.b) H k 288 [.agg #[.int .i64 x0_0, .int .i64 x0_1], .agg #[.int .i64 x1_0, .int .i64 x1_1]] σ = d_alloc_best_place_c1 k x0_0 x0_1 x1_0 x1_1 σ := by
  simp only [d_alloc_best_place_c1, hide_eq]

noncomputable def s_callN_iiii_i (k : Nat) (n : FuncId) (l : List Value) (σ : AMem) : Option (Value × AMem) :=
  if n = 288 then (match l with
    | [.agg ⟨[.int .i64 y1, .int .i64 y2]⟩, .agg ⟨[.int .i64 y3, .int .i64 y4]⟩] => s_alloc_best_place_c1 k y1 y2 y3 y4 σ
    | l => fn P (XK Kn.b) H k 288 l σ) else
  fn P (XK Kn.b) H k n l σ

theorem callN_iiii_i_is (k : Nat) (n : FuncId) (l : List Value) (σ : AMem) : fn P (XK Kn.b) H k n l σ = s_callN_iiii_i k n l σ := by
  unfold s_callN_iiii_i
  split
  · rename_i hn; subst hn
    split
    · rw [alloc_best_place_c1_raw, alloc_best_place_c1_is]
    · rfl
  rfl

noncomputable def s_callV_iiii_i (k : Nat) (f : Value) (args : List Value) (σ : AMem) : Option (Value × AMem) := match f with
  | .func (.func n) first cap => bif Nat.beq n YF then none else s_callN_iiii_i k n (first.toList ++ args ++ cap.toList) σ
  | .func (.yield h) _ _ => fn P (XK Kn.b) H k YF (.pointer (some ⟨h, 0, none⟩) :: args) σ
  | .func (.method nm) first _ => (match first.toList ++ args with
    | .iface t v :: rest => (methodF P t nm).bind fun n => bif Nat.beq n YF then none else s_callN_iiii_i k n (v :: rest) σ
    | _ => none)
  | _ => none

theorem callV_iiii_i_is : d_callV_iiii_i = s_callV_iiii_i := by
  funext k f args σ
  simp only [d_callV_iiii_i, hide_eq]
  unfold callVal s_callV_iiii_i
  simp only [callN_iiii_i_is]
  rfl

def Y_pnnivi (f : M_pnnivi) : M_pnnivi := fun x0 x1 x2 x3 x4 x5 σ => fP x0 fun x0 => fN x1 fun x1 => fN x2 fun x2 => fI x3 fun x3 => fI x5 fun x5 => fL σ fun σ => f x0 x1 x2 x3 x4 x5 σ
theorem Y_pnnivi_eq (f : M_pnnivi) : f = Y_pnnivi f := by funext _ _ _ _ _ _ _; simp only [Y_pnnivi, strA]

noncomputable def s_slices_insertionSortCmpFunc_api_Run_l1 (k n : Nat) : M_pnnivi := Nat.rec (fun _ _ _ _ _ _ _ => none) (fun _ ih => Y_pnnivi (b_slices_insertionSortCmpFunc_api_Run_l1 k (s_callV_iiii_i k) ih)) n
theorem slices_insertionSortCmpFunc_api_Run_l1_is : d_slices_insertionSortCmpFunc_api_Run_l1 = s_slices_insertionSortCmpFunc_api_Run_l1 :=
  is_l (fun k => by simp only [d_slices_insertionSortCmpFunc_api_Run_l1, hide_eq]; rfl) fun k n ih => by rw [d_slices_insertionSortCmpFunc_api_Run_l1_eq, callV_iiii_i_is, ih]; exact Y_pnnivi_eq _

def Y_pnniivi (f : M_pnniivi) : M_pnniivi := fun x0 x1 x2 x3 x4 x5 x6 σ => fP x0 fun x0 => fN x1 fun x1 => fN x2 fun x2 => fI x3 fun x3 => fI x4 fun x4 => fI x6 fun x6 => fL σ fun σ => f x0 x1 x2 x3 x4 x5 x6 σ
theorem Y_pnniivi_eq (f : M_pnniivi) : f = Y_pnniivi f := by funext _ _ _ _ _ _ _ _; simp only [Y_pnniivi, strA]

noncomputable def s_slices_insertionSortCmpFunc_api_Run_l0 (k n : Nat) : M_pnniivi := Nat.rec (fun _ _ _ _ _ _ _ _ => none) (fun _ ih => Y_pnniivi (b_slices_insertionSortCmpFunc_api_Run_l0 k (s_slices_insertionSortCmpFunc_api_Run_l1 k) ih)) n
theorem slices_insertionSortCmpFunc_api_Run_l0_is : d_slices_insertionSortCmpFunc_api_Run_l0 = s_slices_insertionSortCmpFunc_api_Run_l0 :=
  is_l (fun k => by simp only [d_slices_insertionSortCmpFunc_api_Run_l0, hide_eq]; rfl) fun k n ih => by rw [d_slices_insertionSortCmpFunc_api_Run_l0_eq, slices_insertionSortCmpFunc_api_Run_l1_is, ih]; exact Y_pnniivi_eq _

def W_liiv (f : T_liiv) : T_liiv := fun x0 x1 x2 x3 σ => fS x0 fun x0 => fI x1 fun x1 => fI x2 fun x2 => fL σ fun σ => f x0 x1 x2 x3 σ
theorem W_liiv_eq (f : T_liiv) : f = W_liiv f := by funext _ _ _ _ _; simp only [W_liiv, strA]

noncomputable def s_slices_insertionSortCmpFunc_api_Run : Nat → T_liiv
  | 0 => fun _ _ _ _ _ => none
  | k + 1 => W_liiv (b_slices_insertionSortCmpFunc_api_Run k (s_slices_insertionSortCmpFunc_api_Run_l0 k))
theorem slices_insertionSortCmpFunc_api_Run_is : d_slices_insertionSortCmpFunc_api_Run = s_slices_insertionSortCmpFunc_api_Run :=
  is_f (by simp only [d_slices_insertionSortCmpFunc_api_Run, hide_eq]; rfl) fun k => by rw [d_slices_insertionSortCmpFunc_api_Run_eq, slices_insertionSortCmpFunc_api_Run_l0_is]; exact W_liiv_eq _

noncomputable def s_slices_symMergeCmpFunc_api_Run (k : Nat) (x0 : Option Addr × Nat × Nat) (x1 : Int) (x2 : Int) (x3 : Int) (x4 : Value) (σ : AMem) : Option (Value × AMem) := d_slices_symMergeCmpFunc_api_Run k x0 x1 x2 x3 x4 σ
theorem slices_symMergeCmpFunc_api_Run_is : d_slices_symMergeCmpFunc_api_Run = s_slices_symMergeCmpFunc_api_Run := rfl

def Y_pnnivii (f : M_pnnivii) : M_pnnivii := fun x0 x1 x2 x3 x4 x5 x6 σ => fP x0 fun x0 => fN x1 fun x1 => fN x2 fun x2 => fI x3 fun x3 => fI x5 fun x5 => fI x6 fun x6 => fL σ fun σ => f x0 x1 x2 x3 x4 x5 x6 σ
theorem Y_pnnivii_eq (f : M_pnnivii) : f = Y_pnnivii f := by funext _ _ _ _ _ _ _ _; simp only [Y_pnnivii, strA]

noncomputable def s_slices_stableCmpFunc_api_Run_l0 (k n : Nat) : M_pnnivii := Nat.rec (fun _ _ _ _ _ _ _ _ => none) (fun _ ih => Y_pnnivii (b_slices_stableCmpFunc_api_Run_l0 k (s_slices_insertionSortCmpFunc_api_Run k) ih)) n
theorem slices_stableCmpFunc_api_Run_l0_is : d_slices_stableCmpFunc_api_Run_l0 = s_slices_stableCmpFunc_api_Run_l0 :=
  is_l (fun k => by simp only [d_slices_stableCmpFunc_api_Run_l0, hide_eq]; rfl) fun k n ih => by rw [d_slices_stableCmpFunc_api_Run_l0_eq, slices_insertionSortCmpFunc_api_Run_is, ih]; exact Y_pnnivii_eq _

def Y_pnniviii (f : M_pnniviii) : M_pnniviii := fun x0 x1 x2 x3 x4 x5 x6 x7 σ => fP x0 fun x0 => fN x1 fun x1 => fN x2 fun x2 => fI x3 fun x3 => fI x5 fun x5 => fI x6 fun x6 => fI x7 fun x7 => fL σ fun σ => f x0 x1 x2 x3 x4 x5 x6 x7 σ
theorem Y_pnniviii_eq (f : M_pnniviii) : f = Y_pnniviii f := by funext _ _ _ _ _ _ _ _ _; simp only [Y_pnniviii, strA]

noncomputable def s_slices_stableCmpFunc_api_Run_l2 (k n : Nat) : M_pnniviii := Nat.rec (fun _ _ _ _ _ _ _ _ _ => none) (fun _ ih => Y_pnniviii (b_slices_stableCmpFunc_api_Run_l2 k (s_slices_symMergeCmpFunc_api_Run k) ih)) n
theorem slices_stableCmpFunc_api_Run_l2_is : d_slices_stableCmpFunc_api_Run_l2 = s_slices_stableCmpFunc_api_Run_l2 :=
  is_l (fun k => by simp only [d_slices_stableCmpFunc_api_Run_l2, hide_eq]; rfl) fun k n ih => by rw [d_slices_stableCmpFunc_api_Run_l2_eq, slices_symMergeCmpFunc_api_Run_is, ih]; exact Y_pnniviii_eq _

noncomputable def s_slices_stableCmpFunc_api_Run_l1 (k n : Nat) : M_pnnivi := Nat.rec (fun _ _ _ _ _ _ _ => none) (fun _ ih => Y_pnnivi (b_slices_stableCmpFunc_api_Run_l1 k (s_slices_stableCmpFunc_api_Run_l2 k) (s_slices_symMergeCmpFunc_api_Run k) ih)) n
theorem slices_stableCmpFunc_api_Run_l1_is : d_slices_stableCmpFunc_api_Run_l1 = s_slices_stableCmpFunc_api_Run_l1 :=
  is_l (fun k => by simp only [d_slices_stableCmpFunc_api_Run_l1, hide_eq]; rfl) fun k n ih => by rw [d_slices_stableCmpFunc_api_Run_l1_eq, slices_stableCmpFunc_api_Run_l2_is, slices_symMergeCmpFunc_api_Run_is, ih]; exact Y_pnnivi_eq _

def W_liv (f : T_liv) : T_liv := fun x0 x1 x2 σ => fS x0 fun x0 => fI x1 fun x1 => fL σ fun σ => f x0 x1 x2 σ
theorem W_liv_eq (f : T_liv) : f = W_liv f := by funext _ _ _ _; simp only [W_liv, strA]

noncomputable def s_slices_stableCmpFunc_api_Run : Nat → T_liv
  | 0 => fun _ _ _ _ => none
  | k + 1 => W_liv (b_slices_stableCmpFunc_api_Run k (s_slices_insertionSortCmpFunc_api_Run k) (s_slices_stableCmpFunc_api_Run_l0 k) (s_slices_stableCmpFunc_api_Run_l1 k))
theorem slices_stableCmpFunc_api_Run_is : d_slices_stableCmpFunc_api_Run = s_slices_stableCmpFunc_api_Run :=
  is_f (by simp only [d_slices_stableCmpFunc_api_Run, hide_eq]; rfl) fun k => by rw [d_slices_stableCmpFunc_api_Run_eq, slices_insertionSortCmpFunc_api_Run_is, slices_stableCmpFunc_api_Run_l0_is, slices_stableCmpFunc_api_Run_l1_is]; exact W_liv_eq _

noncomputable def s_slices_SortStableFunc_api_Run : Nat → T_lv
  | 0 => fun _ _ _ => none
  | k + 1 => W_lv (b_slices_SortStableFunc_api_Run k (s_slices_stableCmpFunc_api_Run k))
theorem slices_SortStableFunc_api_Run_is : d_slices_SortStableFunc_api_Run = s_slices_SortStableFunc_api_Run :=
  is_f (by simp only [d_slices_SortStableFunc_api_Run, hide_eq]; rfl) fun k => by rw [d_slices_SortStableFunc_api_Run_eq, slices_stableCmpFunc_api_Run_is]; exact W_lv_eq _

noncomputable def s_alloc_best_place : Nat → T_pi
  | 0 => fun _ _ _ => none
  | k + 1 => W_pi (b_alloc_best_place k (s_alloc_Allocator_gaps k) (s_alloc_Allocator_start k) (s_slices_SortStableFunc_api_Run k))
theorem alloc_best_place_is : d_alloc_best_place = s_alloc_best_place :=
  is_f (by simp only [d_alloc_best_place, hide_eq]; rfl) fun k => by rw [d_alloc_best_place_eq, alloc_Allocator_gaps_is, alloc_Allocator_start_is, slices_SortStableFunc_api_Run_is]; exact W_pi_eq _

theorem alloc_best_place_raw (k : Nat) (x1 : Option Addr) (x2 : Int) (σ : AMem) : fn P (XK Kn.b) H k 286 [.agg #[], .pointer x1, .int .i64 x2] σ = d_alloc_best_place k x1 x2 σ := by
  simp only [d_alloc_best_place, hide_eq]

noncomputable def s_alloc_next_place : Nat → T_pi
  | 0 => fun _ _ _ => none
  | k + 1 => W_pi (b_alloc_next_place k (s_alloc_Allocator_gaps k) (s_alloc_Allocator_start k))
theorem alloc_next_place_is : d_alloc_next_place = s_alloc_next_place :=
  is_f (by simp only [d_alloc_next_place, hide_eq]; rfl) fun k => by rw [d_alloc_next_place_eq, alloc_Allocator_gaps_is, alloc_Allocator_start_is]; exact W_pi_eq _

theorem alloc_next_place_raw (k : Nat) (x1 : Option Addr) (x2 : Int) (σ : AMem) : fn P (XK Kn.b) H k 294 [.agg #[], .pointer x1, .int .i64 x2] σ = d_alloc_next_place k x1 x2 σ := by
  simp only [d_alloc_next_place, hide_eq]

noncomputable def s_alloc_area_has : Nat → T_pi
  | 0 => fun _ _ _ => none
  | k + 1 => W_pi (b_alloc_area_has k )
theorem alloc_area_has_is : d_alloc_area_has = s_alloc_area_has :=
  is_f (by simp only [d_alloc_area_has, hide_eq]; rfl) fun k => by rw [d_alloc_area_has_eq]; exact W_pi_eq _

noncomputable def s_alloc_area_take : Nat → T_pi
  | 0 => fun _ _ _ => none
  | k + 1 => W_pi (b_alloc_area_take k )
theorem alloc_area_take_is : d_alloc_area_take = s_alloc_area_take :=
  is_f (by simp only [d_alloc_area_take, hide_eq]; rfl) fun k => by rw [d_alloc_area_take_eq]; exact W_pi_eq _

noncomputable def s_alloc_Allocator_bumped : Nat → T_ppi
  | 0 => fun _ _ _ _ => none
  | k + 1 => W_ppi (b_alloc_Allocator_bumped k (s_alloc_Allocator_begin k) (s_alloc_area_has k) (s_alloc_area_take k))
theorem alloc_Allocator_bumped_is : d_alloc_Allocator_bumped = s_alloc_Allocator_bumped :=
  is_f (by simp only [d_alloc_Allocator_bumped, hide_eq]; rfl) fun k => by rw [d_alloc_Allocator_bumped_eq, alloc_Allocator_begin_is, alloc_area_has_is, alloc_area_take_is]; exact W_ppi_eq _

noncomputable def s_alloc_bump_place : Nat → T_pi
  | 0 => fun _ _ _ => none
  | k + 1 => W_pi (b_alloc_bump_place k (s_alloc_Allocator_bumped k))
theorem alloc_bump_place_is : d_alloc_bump_place = s_alloc_bump_place :=
  is_f (by simp only [d_alloc_bump_place, hide_eq]; rfl) fun k => by rw [d_alloc_bump_place_eq, alloc_Allocator_bumped_is]; exact W_pi_eq _

theorem alloc_bump_place_raw (k : Nat) (x1 : Option Addr) (x2 : Int) (σ : AMem) : fn P (XK Kn.b) H k 295 [.agg #[], .pointer x1, .int .i64 x2] σ = d_alloc_bump_place k x1 x2 σ := by
  simp only [d_alloc_bump_place, hide_eq]

def Y_nnii (f : M_nnii) : M_nnii := fun x0 x1 x2 x3 σ => fN x0 fun x0 => fN x1 fun x1 => fI x2 fun x2 => fI x3 fun x3 => fL σ fun σ => f x0 x1 x2 x3 σ
theorem Y_nnii_eq (f : M_nnii) : f = Y_nnii f := by funext _ _ _ _ _; simp only [Y_nnii, strA]

noncomputable def s_heap_Heap_Lines_l1 (k n : Nat) : M_nnii := Nat.rec (fun _ _ _ _ _ => none) (fun _ ih => Y_nnii (b_heap_Heap_Lines_l1 k  ih)) n
theorem heap_Heap_Lines_l1_is : d_heap_Heap_Lines_l1 = s_heap_Heap_Lines_l1 :=
  is_l (fun k => by simp only [d_heap_Heap_Lines_l1, hide_eq]; rfl) fun k n ih => by rw [d_heap_Heap_Lines_l1_eq, ih]; exact Y_nnii_eq _

noncomputable def s_heap_Heap_Lines_l0 (k n : Nat) : M_pnnpnnii := Nat.rec (fun _ _ _ _ _ _ _ _ _ => none) (fun _ ih => Y_pnnpnnii (b_heap_Heap_Lines_l0 k (s_heap_Heap_Lines_l1 k) (s_heap_Heap_size k) ih)) n
theorem heap_Heap_Lines_l0_is : d_heap_Heap_Lines_l0 = s_heap_Heap_Lines_l0 :=
  is_l (fun k => by simp only [d_heap_Heap_Lines_l0, hide_eq]; rfl) fun k n ih => by rw [d_heap_Heap_Lines_l0_eq, heap_Heap_Lines_l1_is, heap_Heap_size_is, ih]; exact Y_pnnpnnii_eq _

noncomputable def s_heap_Heap_Lines : Nat → T_pi
  | 0 => fun _ _ _ => none
  | k + 1 => W_pi (b_heap_Heap_Lines k (s_heap_Heap_Lines_l0 k) (s_heap_Heap_Objects k) (s_heap_Heap_used k))
theorem heap_Heap_Lines_is : d_heap_Heap_Lines = s_heap_Heap_Lines :=
  is_f (by simp only [d_heap_Heap_Lines, hide_eq]; rfl) fun k => by rw [d_heap_Heap_Lines_eq, heap_Heap_Lines_l0_is, heap_Heap_Objects_is, heap_Heap_used_is]; exact W_pi_eq _

def Y_pnni (f : M_pnni) : M_pnni := fun x0 x1 x2 x3 σ => fP x0 fun x0 => fN x1 fun x1 => fN x2 fun x2 => fI x3 fun x3 => fL σ fun σ => f x0 x1 x2 x3 σ
theorem Y_pnni_eq (f : M_pnni) : f = Y_pnni f := by funext _ _ _ _ _; simp only [Y_pnni, strA]

noncomputable def s_alloc_Allocator_hole_l2 (k n : Nat) : M_pnni := Nat.rec (fun _ _ _ _ _ => none) (fun _ ih => Y_pnni (b_alloc_Allocator_hole_l2 k  ih)) n
theorem alloc_Allocator_hole_l2_is : d_alloc_Allocator_hole_l2 = s_alloc_Allocator_hole_l2 :=
  is_l (fun k => by simp only [d_alloc_Allocator_hole_l2, hide_eq]; rfl) fun k n ih => by rw [d_alloc_Allocator_hole_l2_eq, ih]; exact Y_pnni_eq _

def Y_pnipnni (f : M_pnipnni) : M_pnipnni := fun x0 x1 x2 x3 x4 x5 x6 σ => fP x0 fun x0 => fN x1 fun x1 => fI x2 fun x2 => fP x3 fun x3 => fN x4 fun x4 => fN x5 fun x5 => fI x6 fun x6 => fL σ fun σ => f x0 x1 x2 x3 x4 x5 x6 σ
theorem Y_pnipnni_eq (f : M_pnipnni) : f = Y_pnipnni f := by funext _ _ _ _ _ _ _ _; simp only [Y_pnipnni, strA]

noncomputable def s_alloc_Allocator_hole_l1 (k n : Nat) : M_pnipnni := Nat.rec (fun _ _ _ _ _ _ _ _ => none) (fun _ ih => Y_pnipnni (b_alloc_Allocator_hole_l1 k (s_alloc_Allocator_hole_l2 k) ih)) n
theorem alloc_Allocator_hole_l1_is : d_alloc_Allocator_hole_l1 = s_alloc_Allocator_hole_l1 :=
  is_l (fun k => by simp only [d_alloc_Allocator_hole_l1, hide_eq]; rfl) fun k n ih => by rw [d_alloc_Allocator_hole_l1_eq, alloc_Allocator_hole_l2_is, ih]; exact Y_pnipnni_eq _

noncomputable def s_alloc_Allocator_hole_l0 (k n : Nat) : M_pnpnnii := Nat.rec (fun _ _ _ _ _ _ _ _ => none) (fun _ ih => Y_pnpnnii (b_alloc_Allocator_hole_l0 k (s_alloc_Allocator_hole_l1 k) (s_heap_Heap_Lines k) ih)) n
theorem alloc_Allocator_hole_l0_is : d_alloc_Allocator_hole_l0 = s_alloc_Allocator_hole_l0 :=
  is_l (fun k => by simp only [d_alloc_Allocator_hole_l0, hide_eq]; rfl) fun k n ih => by rw [d_alloc_Allocator_hole_l0_eq, alloc_Allocator_hole_l1_is, heap_Heap_Lines_is, ih]; exact Y_pnpnnii_eq _

noncomputable def s_alloc_Allocator_hole : Nat → T_p
  | 0 => fun _ _ => none
  | k + 1 => W_p (b_alloc_Allocator_hole k (s_alloc_Allocator_begin k) (s_alloc_Allocator_blocks k) (s_alloc_Allocator_hole_l0 k))
theorem alloc_Allocator_hole_is : d_alloc_Allocator_hole = s_alloc_Allocator_hole :=
  is_f (by simp only [d_alloc_Allocator_hole, hide_eq]; rfl) fun k => by rw [d_alloc_Allocator_hole_eq, alloc_Allocator_begin_is, alloc_Allocator_blocks_is, alloc_Allocator_hole_l0_is]; exact W_p_eq _

noncomputable def s_alloc_lines_place : Nat → T_pi
  | 0 => fun _ _ _ => none
  | k + 1 => W_pi (b_alloc_lines_place k (s_alloc_Allocator_bumped k) (s_alloc_Allocator_hole k) (s_alloc_area_has k) (s_alloc_area_take k))
theorem alloc_lines_place_is : d_alloc_lines_place = s_alloc_lines_place :=
  is_f (by simp only [d_alloc_lines_place, hide_eq]; rfl) fun k => by rw [d_alloc_lines_place_eq, alloc_Allocator_bumped_is, alloc_Allocator_hole_is, alloc_area_has_is, alloc_area_take_is]; exact W_pi_eq _

theorem alloc_lines_place_raw (k : Nat) (x1 : Option Addr) (x2 : Int) (σ : AMem) : fn P (XK Kn.b) H k 299 [.agg #[], .pointer x1, .int .i64 x2] σ = d_alloc_lines_place k x1 x2 σ := by
  simp only [d_alloc_lines_place, hide_eq]

noncomputable def s_callN_pi_it (k : Nat) (n : FuncId) (l : List Value) (σ : AMem) : Option (Value × AMem) :=
  if n = 156 then (match l with
    | [.pointer y1, .int .i64 y2] => s_alloc_Allocator_large k y1 y2 σ
    | l => fn P (XK Kn.b) H k 156 l σ) else
  if n = 280 then (match l with
    | [.agg ⟨[]⟩, .pointer y1, .int .i64 y2] => s_alloc_first_place k y1 y2 σ
    | l => fn P (XK Kn.b) H k 280 l σ) else
  if n = 286 then (match l with
    | [.agg ⟨[]⟩, .pointer y1, .int .i64 y2] => s_alloc_best_place k y1 y2 σ
    | l => fn P (XK Kn.b) H k 286 l σ) else
  if n = 294 then (match l with
    | [.agg ⟨[]⟩, .pointer y1, .int .i64 y2] => s_alloc_next_place k y1 y2 σ
    | l => fn P (XK Kn.b) H k 294 l σ) else
  if n = 295 then (match l with
    | [.agg ⟨[]⟩, .pointer y1, .int .i64 y2] => s_alloc_bump_place k y1 y2 σ
    | l => fn P (XK Kn.b) H k 295 l σ) else
  if n = 299 then (match l with
    | [.agg ⟨[]⟩, .pointer y1, .int .i64 y2] => s_alloc_lines_place k y1 y2 σ
    | l => fn P (XK Kn.b) H k 299 l σ) else
  fn P (XK Kn.b) H k n l σ

theorem callN_pi_it_is (k : Nat) (n : FuncId) (l : List Value) (σ : AMem) : fn P (XK Kn.b) H k n l σ = s_callN_pi_it k n l σ := by
  unfold s_callN_pi_it
  split
  · rename_i hn; subst hn
    split
    · rw [alloc_Allocator_large_raw, alloc_Allocator_large_is]
    · rfl
  split
  · rename_i hn; subst hn
    split
    · rw [alloc_first_place_raw, alloc_first_place_is]
    · rfl
  split
  · rename_i hn; subst hn
    split
    · rw [alloc_best_place_raw, alloc_best_place_is]
    · rfl
  split
  · rename_i hn; subst hn
    split
    · rw [alloc_next_place_raw, alloc_next_place_is]
    · rfl
  split
  · rename_i hn; subst hn
    split
    · rw [alloc_bump_place_raw, alloc_bump_place_is]
    · rfl
  split
  · rename_i hn; subst hn
    split
    · rw [alloc_lines_place_raw, alloc_lines_place_is]
    · rfl
  rfl

noncomputable def s_callV_pi_it (k : Nat) (f : Value) (args : List Value) (σ : AMem) : Option (Value × AMem) := match f with
  | .func (.func n) first cap => bif Nat.beq n YF then none else s_callN_pi_it k n (first.toList ++ args ++ cap.toList) σ
  | .func (.yield h) _ _ => fn P (XK Kn.b) H k YF (.pointer (some ⟨h, 0, none⟩) :: args) σ
  | .func (.method nm) first _ => (match first.toList ++ args with
    | .iface t v :: rest => (methodF P t nm).bind fun n => bif Nat.beq n YF then none else s_callN_pi_it k n (v :: rest) σ
    | _ => none)
  | _ => none

theorem callV_pi_it_is : d_callV_pi_it = s_callV_pi_it := by
  funext k f args σ
  simp only [d_callV_pi_it, hide_eq]
  unfold callVal s_callV_pi_it
  simp only [callN_pi_it_is]
  rfl

noncomputable def s_alloc_Allocator_Alloc : Nat → T_piii
  | 0 => fun _ _ _ _ _ => none
  | k + 1 => W_piii (b_alloc_Allocator_Alloc k (s_alloc_Allocator_made k) (s_alloc_policies k) (s_callV_pi_it k) (s_heap_Heap_Place k) (s_heap_Heap_Space k) (s_heap_Valid k) (s_heap_Words k))
theorem alloc_Allocator_Alloc_is : d_alloc_Allocator_Alloc = s_alloc_Allocator_Alloc :=
  is_f (by simp only [d_alloc_Allocator_Alloc, hide_eq]; rfl) fun k => by rw [d_alloc_Allocator_Alloc_eq, alloc_Allocator_made_is, alloc_policies_is, callV_pi_it_is, heap_Heap_Place_is, heap_Heap_Space_is, heap_Valid_is, heap_Words_is]; exact W_piii_eq _

def W_iiil (f : T_iiil) : T_iiil := fun x0 x1 x2 x3 σ => fI x0 fun x0 => fI x1 fun x1 => fI x2 fun x2 => fS x3 fun x3 => fL σ fun σ => f x0 x1 x2 x3 σ
theorem W_iiil_eq (f : T_iiil) : f = W_iiil f := by funext _ _ _ _ _; simp only [W_iiil, strA]

noncomputable def s_law06_blocks : Nat → T_iiil
  | 0 => fun _ _ _ _ _ => none
  | k + 1 => W_iiil (b_law06_blocks k )
theorem law06_blocks_is : d_law06_blocks = s_law06_blocks :=
  is_f (by simp only [d_law06_blocks, hide_eq]; rfl) fun k => by rw [d_law06_blocks_eq]; exact W_iiil_eq _

noncomputable def s_law06_mutators : Nat → T_iiil
  | 0 => fun _ _ _ _ _ => none
  | k + 1 => W_iiil (b_law06_mutators k )
theorem law06_mutators_is : d_law06_mutators = s_law06_mutators :=
  is_f (by simp only [d_law06_mutators, hide_eq]; rfl) fun k => by rw [d_law06_mutators_eq]; exact W_iiil_eq _

def Y_nii (f : M_nii) : M_nii := fun x0 x1 x2 σ => fN x0 fun x0 => fI x1 fun x1 => fI x2 fun x2 => fL σ fun σ => f x0 x1 x2 σ
theorem Y_nii_eq (f : M_nii) : f = Y_nii f := by funext _ _ _ _; simp only [Y_nii, strA]

noncomputable def s_model_New_l0 (k n : Nat) : M_nii := Nat.rec (fun _ _ _ _ => none) (fun _ ih => Y_nii (b_model_New_l0 k  ih)) n
theorem model_New_l0_is : d_model_New_l0 = s_model_New_l0 :=
  is_l (fun k => by simp only [d_model_New_l0, hide_eq]; rfl) fun k n ih => by rw [d_model_New_l0_eq, ih]; exact Y_nii_eq _

noncomputable def s_model_New : Nat → T_i
  | 0 => fun _ _ => none
  | k + 1 => W_i (b_model_New k (s_model_New_l0 k))
theorem model_New_is : d_model_New = s_model_New :=
  is_f (by simp only [d_model_New, hide_eq]; rfl) fun k => by rw [d_model_New_eq, model_New_l0_is]; exact W_i_eq _

noncomputable def s_alloc_New : Nat → T_pii
  | 0 => fun _ _ _ _ => none
  | k + 1 => W_pii (b_alloc_New k (s_alloc_policies k) (s_heap_Heap_Blocks k))
theorem alloc_New_is : d_alloc_New = s_alloc_New :=
  is_f (by simp only [d_alloc_New, hide_eq]; rfl) fun k => by rw [d_alloc_New_eq, alloc_policies_is, heap_Heap_Blocks_is]; exact W_pii_eq _

def Y_nni (f : M_nni) : M_nni := fun x0 x1 x2 σ => fN x0 fun x0 => fN x1 fun x1 => fI x2 fun x2 => fL σ fun σ => f x0 x1 x2 σ
theorem Y_nni_eq (f : M_nni) : f = Y_nni f := by funext _ _ _ _; simp only [Y_nni, strA]

noncomputable def s_law06_NewWorld_l0 (k n : Nat) : M_nni := Nat.rec (fun _ _ _ _ => none) (fun _ ih => Y_nni (b_law06_NewWorld_l0 k (s_alloc_New k) ih)) n
theorem law06_NewWorld_l0_is : d_law06_NewWorld_l0 = s_law06_NewWorld_l0 :=
  is_l (fun k => by simp only [d_law06_NewWorld_l0, hide_eq]; rfl) fun k n ih => by rw [d_law06_NewWorld_l0_eq, alloc_New_is, ih]; exact Y_nni_eq _

noncomputable def s_law06_NewWorld : Nat → T_iiil
  | 0 => fun _ _ _ _ _ => none
  | k + 1 => W_iiil (b_law06_NewWorld k (s_heap_New k) (s_law06_NewWorld_l0 k) (s_law06_blocks k) (s_law06_mutators k) (s_model_New k) (s_roots_New k))
theorem law06_NewWorld_is : d_law06_NewWorld = s_law06_NewWorld :=
  is_f (by simp only [d_law06_NewWorld, hide_eq]; rfl) fun k => by rw [d_law06_NewWorld_eq, heap_New_is, law06_NewWorld_l0_is, law06_blocks_is, law06_mutators_is, model_New_is, roots_New_is]; exact W_iiil_eq _

noncomputable def s_roots_Roots_Set : Nat → T_piiii
  | 0 => fun _ _ _ _ _ _ => none
  | k + 1 => W_piiii (b_roots_Roots_Set k (s_roots_Roots_place k))
theorem roots_Roots_Set_is : d_roots_Roots_Set = s_roots_Roots_Set :=
  is_f (by simp only [d_roots_Roots_Set, hide_eq]; rfl) fun k => by rw [d_roots_Roots_Set_eq, roots_Roots_place_is]; exact W_piiii_eq _

def Y_pnnpnni (f : M_pnnpnni) : M_pnnpnni := fun x0 x1 x2 x3 x4 x5 x6 σ => fP x0 fun x0 => fN x1 fun x1 => fN x2 fun x2 => fP x3 fun x3 => fN x4 fun x4 => fN x5 fun x5 => fI x6 fun x6 => fL σ fun σ => f x0 x1 x2 x3 x4 x5 x6 σ
theorem Y_pnnpnni_eq (f : M_pnnpnni) : f = Y_pnnpnni f := by funext _ _ _ _ _ _ _ _; simp only [Y_pnnpnni, strA]

noncomputable def s_ref01_Ints_l0 (k n : Nat) : M_pnnpnni := Nat.rec (fun _ _ _ _ _ _ _ _ => none) (fun _ ih => Y_pnnpnni (b_ref01_Ints_l0 k  ih)) n
theorem ref01_Ints_l0_is : d_ref01_Ints_l0 = s_ref01_Ints_l0 :=
  is_l (fun k => by simp only [d_ref01_Ints_l0, hide_eq]; rfl) fun k n ih => by rw [d_ref01_Ints_l0_eq, ih]; exact Y_pnnpnni_eq _

def W_ll (f : T_ll) : T_ll := fun x0 x1 σ => fS x0 fun x0 => fS x1 fun x1 => fL σ fun σ => f x0 x1 σ
theorem W_ll_eq (f : T_ll) : f = W_ll f := by funext _ _ _; simp only [W_ll, strA]

noncomputable def s_ref01_Ints : Nat → T_ll
  | 0 => fun _ _ _ => none
  | k + 1 => W_ll (b_ref01_Ints k (s_ref01_Ints_l0 k))
theorem ref01_Ints_is : d_ref01_Ints = s_ref01_Ints :=
  is_f (by simp only [d_ref01_Ints, hide_eq]; rfl) fun k => by rw [d_ref01_Ints_eq, ref01_Ints_l0_is]; exact W_ll_eq _

def Y_pnniiii (f : M_pnniiii) : M_pnniiii := fun x0 x1 x2 x3 x4 x5 x6 σ => fP x0 fun x0 => fN x1 fun x1 => fN x2 fun x2 => fI x3 fun x3 => fI x4 fun x4 => fI x5 fun x5 => fI x6 fun x6 => fL σ fun σ => f x0 x1 x2 x3 x4 x5 x6 σ
theorem Y_pnniiii_eq (f : M_pnniiii) : f = Y_pnniiii f := by funext _ _ _ _ _ _ _ _; simp only [Y_pnniiii, strA]

noncomputable def s_slices_swapRangeCmpFunc_api_Run_l0 (k n : Nat) : M_pnniiii := Nat.rec (fun _ _ _ _ _ _ _ _ => none) (fun _ ih => Y_pnniiii (b_slices_swapRangeCmpFunc_api_Run_l0 k  ih)) n
theorem slices_swapRangeCmpFunc_api_Run_l0_is : d_slices_swapRangeCmpFunc_api_Run_l0 = s_slices_swapRangeCmpFunc_api_Run_l0 :=
  is_l (fun k => by simp only [d_slices_swapRangeCmpFunc_api_Run_l0, hide_eq]; rfl) fun k n ih => by rw [d_slices_swapRangeCmpFunc_api_Run_l0_eq, ih]; exact Y_pnniiii_eq _

def W_liiiv (f : T_liiiv) : T_liiiv := fun x0 x1 x2 x3 x4 σ => fS x0 fun x0 => fI x1 fun x1 => fI x2 fun x2 => fI x3 fun x3 => fL σ fun σ => f x0 x1 x2 x3 x4 σ
theorem W_liiiv_eq (f : T_liiiv) : f = W_liiiv f := by funext _ _ _ _ _ _; simp only [W_liiiv, strA]

noncomputable def s_slices_swapRangeCmpFunc_api_Run : Nat → T_liiiv
  | 0 => fun _ _ _ _ _ _ => none
  | k + 1 => W_liiiv (b_slices_swapRangeCmpFunc_api_Run k (s_slices_swapRangeCmpFunc_api_Run_l0 k))
theorem slices_swapRangeCmpFunc_api_Run_is : d_slices_swapRangeCmpFunc_api_Run = s_slices_swapRangeCmpFunc_api_Run :=
  is_f (by simp only [d_slices_swapRangeCmpFunc_api_Run, hide_eq]; rfl) fun k => by rw [d_slices_swapRangeCmpFunc_api_Run_eq, slices_swapRangeCmpFunc_api_Run_l0_is]; exact W_liiiv_eq _

noncomputable def s_slices_rotateCmpFunc_api_Run_l0 (k n : Nat) : M_pnnivii := Nat.rec (fun _ _ _ _ _ _ _ _ => none) (fun _ ih => Y_pnnivii (b_slices_rotateCmpFunc_api_Run_l0 k (s_slices_swapRangeCmpFunc_api_Run k) ih)) n
theorem slices_rotateCmpFunc_api_Run_l0_is : d_slices_rotateCmpFunc_api_Run_l0 = s_slices_rotateCmpFunc_api_Run_l0 :=
  is_l (fun k => by simp only [d_slices_rotateCmpFunc_api_Run_l0, hide_eq]; rfl) fun k n ih => by rw [d_slices_rotateCmpFunc_api_Run_l0_eq, slices_swapRangeCmpFunc_api_Run_is, ih]; exact Y_pnnivii_eq _

noncomputable def s_slices_rotateCmpFunc_api_Run : Nat → T_liiiv
  | 0 => fun _ _ _ _ _ _ => none
  | k + 1 => W_liiiv (b_slices_rotateCmpFunc_api_Run k (s_slices_rotateCmpFunc_api_Run_l0 k) (s_slices_swapRangeCmpFunc_api_Run k))
theorem slices_rotateCmpFunc_api_Run_is : d_slices_rotateCmpFunc_api_Run = s_slices_rotateCmpFunc_api_Run :=
  is_f (by simp only [d_slices_rotateCmpFunc_api_Run, hide_eq]; rfl) fun k => by rw [d_slices_rotateCmpFunc_api_Run_eq, slices_rotateCmpFunc_api_Run_l0_is, slices_swapRangeCmpFunc_api_Run_is]; exact W_liiiv_eq _

end
section
local instance kn1 : Kn := ⟨false⟩
variable [Quiet]

noncomputable def s_law08_alive : Nat → T_
  | 0 => fun  _ => none
  | k + 1 => W_ (b_law08_alive k (s_alloc_Allocator_Alloc k) (s_heap_Heap_State k) (s_law06_NewWorld k) (s_ref01_Ints k) (s_roots_Roots_Set k) (s_sweep_Collect k) (s_sweep_New k) (s_sweep_Sweeper_Block k) (s_sweep_Sweeper_Left k) (s_trace_Mark k))
theorem law08_alive_is : d_law08_alive = s_law08_alive :=
  is_f (by simp only [d_law08_alive, hide_eq]; rfl) fun k => by rw [d_law08_alive_run_eq, alloc_Allocator_Alloc_is, heap_Heap_State_is, law06_NewWorld_is, ref01_Ints_is, roots_Roots_Set_is, sweep_Collect_is, sweep_New_is, sweep_Sweeper_Block_is, sweep_Sweeper_Left_is, trace_Mark_is]; exact W__eq _

end
end Go.Proofs.YtilefhlamdiomaaGreat
