/-
  PRINTED BY A PROGRAM OF THIS SESSION'S OWN (gen2.py): the functions that the examples reach, as definitions.
-/
import Derived.Test.YtlaplcglpnlieaaGreatAXQ
import Derived.Test.YtlaplcglpnlieaaGreatF1
set_option maxRecDepth 100000
set_option linter.unusedVariables false
set_option linter.unusedSimpArgs false
set_option linter.unusedSectionVars false
namespace Go.Proofs.YtlaplcglpnlieaaGreat
open Go Go.AX
local instance kn1:Kn:=⟨false⟩
variable [Quiet]
noncomputable def s_slices_Index_int_l0 (k n:Nat) (p0:Option Addr) (c1:Nat) (c2:Nat) (i3:Int) (i4:Int) (x8:Int) (σ:AMem):Option LOut:=match n with
  | 0=>none
  | n+1=>(fP p0 fun p0=>fN c1 fun c1=>fN c2 fun c2=>fI i3 fun i3=>fI i4 fun i4=>fI x8 fun x8=>fL σ fun σ=>bif decide (x8<i4) then (if 0≤x8∧x8<(c1:Nat) then p0.bind fun a1=>(ldI .i64 σ a1.block (a1.off+x8.toNat*1)).bind fun n2=>bif i3 == n2 then (some (.ret,[.int .i64 x8],σ)) else (s_slices_Index_int_l0 k n p0 c1 c2 i3 i4 (w64 (x8+(1:Int))) σ) else none) else (some (.exit 0,[],σ)))
termination_by structural n
theorem slices_Index_int_l0_is (k n:Nat) (p0:Option Addr) (c1:Nat) (c2:Nat) (i3:Int) (i4:Int) (x8:Int) (σ:AMem):d_slices_Index_int_l0 k n p0 c1 c2 i3 i4 x8 σ=s_slices_Index_int_l0 k n p0 c1 c2 i3 i4 x8 σ:=by
  induction n generalizing p0 c1 c2 i3 i4 x8 σ with
  | zero=>simp only[d_slices_Index_int_l0,hide_eq]; rfl
  | succ n ih=>rw[d_slices_Index_int_l0_eq,b_slices_Index_int_l0,s_slices_Index_int_l0]; simp only[ih,fI_eq,fN_eq,fB_eq,fP_eq,fA_eq,fS_eq,fO_eq,fV_eq,fL_eq,fMem_eq,fMm_eq,fR_eq,allocS_eq,stNS_eq,st1S_eq,setMS_eq]
noncomputable def s_slices_Index_int (k:Nat) (x0:Option Addr × Nat × Nat) (x1:Int) (σ:AMem):Option (Value × AMem):=match k with
  | 0=>none
  | k+1=>(fS x0 fun x0=>fI x1 fun x1=>fL σ fun σ=>(s_slices_Index_int_l0 k k x0.1 x0.2.1 x0.2.2 x1 ((x0.2.1:Nat):Int) (0:Int) σ).bind fun r3=>if r3.1 = .exit 0 then (fI (-1:Int) fun y4=>some (.int .i64 y4,r3.2.2)) else if r3.1 = .ret then (u_i r3.2.1 fun n5=>fI n5 fun y6=>some (.int .i64 y6,r3.2.2)) else none)
theorem slices_Index_int_is (k:Nat) (x0:Option Addr × Nat × Nat) (x1:Int) (σ:AMem):d_slices_Index_int k x0 x1 σ=s_slices_Index_int k x0 x1 σ:=by
  cases k with
  | zero=>simp only[d_slices_Index_int,hide_eq]; rfl
  | succ k=>rw[d_slices_Index_int_eq,b_slices_Index_int,s_slices_Index_int]; simp only[slices_Index_int_l0_is,fI_eq,fN_eq,fB_eq,fP_eq,fA_eq,fS_eq,fO_eq,fV_eq,fL_eq,fMem_eq,fMm_eq,fR_eq,allocS_eq,stNS_eq,st1S_eq,setMS_eq]
noncomputable def s_slices_Contains_int (k:Nat) (x0:Option Addr × Nat × Nat) (x1:Int) (σ:AMem):Option (Value × AMem):=match k with
  | 0=>none
  | k+1=>(fS x0 fun x0=>fI x1 fun x1=>fL σ fun σ=>(s_slices_Index_int k (x0.1,x0.2.1,x0.2.2) x1 σ).bind fun r1=>(toI .i64 r1.1).bind fun n2=>fB (decide (n2≥(0:Int))) fun y3=>some (.bool y3,r1.2))
theorem slices_Contains_int_is (k:Nat) (x0:Option Addr × Nat × Nat) (x1:Int) (σ:AMem):d_slices_Contains_int k x0 x1 σ=s_slices_Contains_int k x0 x1 σ:=by
  cases k with
  | zero=>simp only[d_slices_Contains_int,hide_eq]; rfl
  | succ k=>rw[d_slices_Contains_int_eq,b_slices_Contains_int,s_slices_Contains_int]; simp only[slices_Index_int_is,fI_eq,fN_eq,fB_eq,fP_eq,fA_eq,fS_eq,fO_eq,fV_eq,fL_eq,fMem_eq,fMm_eq,fR_eq,allocS_eq,stNS_eq,st1S_eq,setMS_eq]
noncomputable def s_side_New (k:Nat) (x0:Int) (x1:Int) (σ:AMem):Option (Value × AMem):=match k with
  | 0=>none
  | k+1=>(fI x0 fun x0=>fI x1 fun x1=>fL σ fun σ=>(bif decide (x0<(1:Int)) then some (true,σ) else some (decide (x0>(4096:Int)),σ)).bind fun r1=>(bif r1.1 then some (true,r1.2) else allocS r1.2 (.cells [.int .i64 (1:Int),.int .i64 (2:Int),.int .i64 (4:Int),.int .i64 (8:Int)] 3 true) fun h2 s3=>(s_slices_Contains_int k (some ⟨h2,0,none⟩,4,4) x1 s3).bind fun r4=>(toB r4.1).bind fun b5=>some (!b5,r4.2)).bind fun r6=>bif r6.1 then (fI (1:Int) fun y7=>some (.tuple #[.pointer none,.int .i64 y7],r6.2)) else (if (64:Int)=0 then none else if 0≤(w64 ((w64 ((w64 ((w64 (x0*x1))+(64:Int)))-(1:Int))).tdiv (64:Int)))∧(w64 ((w64 ((w64 ((w64 (x0*x1))+(64:Int)))-(1:Int))).tdiv (64:Int)))≤(w64 ((w64 ((w64 ((w64 (x0*x1))+(64:Int)))-(1:Int))).tdiv (64:Int)))∧(w64 ((w64 ((w64 ((w64 (x0*x1))+(64:Int)))-(1:Int))).tdiv (64:Int)))*(8:Nat)≤2 ^ 40∧(w64 ((w64 ((w64 ((w64 (x0*x1))+(64:Int)))-(1:Int))).tdiv (64:Int)))≤2 ^ 40 then allocS r6.2 (.cells (rep (w64 ((w64 ((w64 ((w64 (x0*x1))+(64:Int)))-(1:Int))).tdiv (64:Int))).toNat [.int .u64 (0:Int)]) 138 true) fun h8 s9=>allocS s9 (.cells [.int .i64 x0,.int .i64 x1,.slice (some ⟨h8,0,none⟩) ((w64 ((w64 ((w64 ((w64 (x0*x1))+(64:Int)))-(1:Int))).tdiv (64:Int))).toNat) ((w64 ((w64 ((w64 ((w64 (x0*x1))+(64:Int)))-(1:Int))).tdiv (64:Int))).toNat)] 136 true) fun h10 s11=>fI (0:Int) fun y12=>some (.tuple #[.pointer (some ⟨h10,0,none⟩),.int .i64 y12],s11) else none))
theorem side_New_is (k:Nat) (x0:Int) (x1:Int) (σ:AMem):d_side_New k x0 x1 σ=s_side_New k x0 x1 σ:=by
  cases k with
  | zero=>simp only[d_side_New,hide_eq]; rfl
  | succ k=>rw[d_side_New_eq,b_side_New,s_side_New]; simp only[slices_Contains_int_is,fI_eq,fN_eq,fB_eq,fP_eq,fA_eq,fS_eq,fO_eq,fV_eq,fL_eq,fMem_eq,fMm_eq,fR_eq,allocS_eq,stNS_eq,st1S_eq,setMS_eq]
noncomputable def s_heap_New (k:Nat) (x0:Int) (σ:AMem):Option (Value × AMem):=match k with
  | 0=>none
  | k+1=>(fI x0 fun x0=>fL σ fun σ=>(bif decide (x0<(2:Int)) then some (true,σ) else some (decide (x0>(64:Int)),σ)).bind fun r1=>bif r1.1 then (fI (1:Int) fun y2=>some (.tuple #[.pointer none,.int .i64 y2],r1.2)) else (if 0≤x0∧x0≤x0∧x0*(16:Nat)≤2 ^ 40∧x0≤2 ^ 40 then allocS r1.2 (.cells (rep x0.toNat [.int .i64 (0:Int),.int .i64 (0:Int)]) 104 true) fun h3 s4=>if 0≤(w64 (x0*(64:Int)))∧(w64 (x0*(64:Int)))≤(w64 (x0*(64:Int)))∧(w64 (x0*(64:Int)))*(8:Nat)≤2 ^ 40∧(w64 (x0*(64:Int)))≤2 ^ 40 then allocS s4 (.cells (rep (w64 (x0*(64:Int))).toNat [.int .i64 (0:Int)]) 3 true) fun h5 s6=>allocS s6 (.map []) fun h7 s8=>allocS s8 (.map []) fun h9 s10=>allocS s10 (.cells [.slice (some ⟨h3,0,none⟩) x0.toNat x0.toNat,.slice (some ⟨h5,0,none⟩) ((w64 (x0*(64:Int))).toNat) ((w64 (x0*(64:Int))).toNat),.pointer none,.pointer none,.map (some h7),.map (some h9),.int .i64 (0:Int)] 94 true) fun h11 s12=>(ldS s12 h11 (0+1)).bind fun l13=>if (2:Int)=0 then none else (s_side_New k (w64 (((l13.2.1:Nat):Int).tdiv (2:Int))) (1:Int) s12).bind fun r14=>r_pi r14.1 fun p15 n16=>st1S r14.2 h11 (0+2) (.pointer p15) fun s17=>(ldS s17 h11 (0+1)).bind fun l18=>if (2:Int)=0 then none else (s_side_New k (w64 (((l18.2.1:Nat):Int).tdiv (2:Int))) (1:Int) s17).bind fun r19=>r_pi r19.1 fun p20 n21=>st1S r19.2 h11 (0+3) (.pointer p20) fun s22=>fI (0:Int) fun y23=>some (.tuple #[.pointer (some ⟨h11,0,none⟩),.int .i64 y23],s22) else none else none))
theorem heap_New_is (k:Nat) (x0:Int) (σ:AMem):d_heap_New k x0 σ=s_heap_New k x0 σ:=by
  cases k with
  | zero=>simp only[d_heap_New,hide_eq]; rfl
  | succ k=>rw[d_heap_New_eq,b_heap_New,s_heap_New]; simp only[side_New_is,fI_eq,fN_eq,fB_eq,fP_eq,fA_eq,fS_eq,fO_eq,fV_eq,fL_eq,fMem_eq,fMm_eq,fR_eq,allocS_eq,stNS_eq,st1S_eq,setMS_eq]
noncomputable def s_heap_Heap_made (k:Nat) (x0:Option Addr) (σ:AMem):Option (Value × AMem):=match k with
  | 0=>none
  | k+1=>(fP x0 fun x0=>fL σ fun σ=>(eqA P 25 (.pointer x0) (.pointer none)).bind fun e1=>(bif !e1 then x0.bind fun a2=>(ldS σ a2.block (a2.off+0)).bind fun l3=>some (decide (((l3.2.1:Nat):Int)>(0:Int)),σ) else some (false,σ)).bind fun r4=>fB r4.1 fun y5=>some (.bool y5,r4.2))
theorem heap_Heap_made_is (k:Nat) (x0:Option Addr) (σ:AMem):d_heap_Heap_made k x0 σ=s_heap_Heap_made k x0 σ:=by
  cases k with
  | zero=>simp only[d_heap_Heap_made,hide_eq]; rfl
  | succ k=>rw[d_heap_Heap_made_eq,b_heap_Heap_made,s_heap_Heap_made]; simp only[fI_eq,fN_eq,fB_eq,fP_eq,fA_eq,fS_eq,fO_eq,fV_eq,fL_eq,fMem_eq,fMm_eq,fR_eq,allocS_eq,stNS_eq,st1S_eq,setMS_eq]
noncomputable def s_heap_space (k:Nat) (x0:Int) (σ:AMem):Option (Value × AMem):=match k with
  | 0=>none
  | k+1=>(fI x0 fun x0=>fL σ fun σ=>(bif decide (x0≥(0:Int)) then some (decide (x0<(8:Int)),σ) else some (false,σ)).bind fun r1=>fB r1.1 fun y2=>some (.bool y2,r1.2))
theorem heap_space_is (k:Nat) (x0:Int) (σ:AMem):d_heap_space k x0 σ=s_heap_space k x0 σ:=by
  cases k with
  | zero=>simp only[d_heap_space,hide_eq]; rfl
  | succ k=>rw[d_heap_space_eq,b_heap_space,s_heap_space]; simp only[fI_eq,fN_eq,fB_eq,fP_eq,fA_eq,fS_eq,fO_eq,fV_eq,fL_eq,fMem_eq,fMm_eq,fR_eq,allocS_eq,stNS_eq,st1S_eq,setMS_eq]
noncomputable def s_heap_Heap_there (k:Nat) (x0:Option Addr) (x1:Int) (σ:AMem):Option (Value × AMem):=match k with
  | 0=>none
  | k+1=>(fP x0 fun x0=>fI x1 fun x1=>fL σ fun σ=>(s_heap_Heap_made k x0 σ).bind fun r1=>(toB r1.1).bind fun b2=>(bif b2 then some (decide (x1≥(1:Int)),r1.2) else some (false,r1.2)).bind fun r3=>(bif r3.1 then x0.bind fun a4=>(ldS r3.2 a4.block (a4.off+0)).bind fun l5=>some (decide (x1<((l5.2.1:Nat):Int)),r3.2) else some (false,r3.2)).bind fun r6=>fB r6.1 fun y7=>some (.bool y7,r6.2))
theorem heap_Heap_there_is (k:Nat) (x0:Option Addr) (x1:Int) (σ:AMem):d_heap_Heap_there k x0 x1 σ=s_heap_Heap_there k x0 x1 σ:=by
  cases k with
  | zero=>simp only[d_heap_Heap_there,hide_eq]; rfl
  | succ k=>rw[d_heap_Heap_there_eq,b_heap_Heap_there,s_heap_Heap_there]; simp only[heap_Heap_made_is,fI_eq,fN_eq,fB_eq,fP_eq,fA_eq,fS_eq,fO_eq,fV_eq,fL_eq,fMem_eq,fMm_eq,fR_eq,allocS_eq,stNS_eq,st1S_eq,setMS_eq]
noncomputable def s_heap_Heap_claim_c1 (k:Nat) (x0_0:Int) (x0_1:Int) (σ:AMem):Option (Value × AMem):=match k with
  | 0=>none
  | k+1=>(fI x0_0 fun x0_0=>fI x0_1 fun x0_1=>fL σ fun σ=>allocS σ (.cells [.int .i64 x0_0,.int .i64 x0_1] 104 true) fun h1 s2=>(ldI .i64 s2 h1 0).bind fun n3=>(ldI .i64 s2 h1 (0+1)).bind fun n4=>(eqA P 104 (.agg #[.int .i64 n3,.int .i64 n4]) (.agg #[.int .i64 (0:Int),.int .i64 (0:Int)])).bind fun e5=>fB (!e5) fun y6=>some (.bool y6,s2))
theorem heap_Heap_claim_c1_is (k:Nat) (x0_0:Int) (x0_1:Int) (σ:AMem):d_heap_Heap_claim_c1 k x0_0 x0_1 σ=s_heap_Heap_claim_c1 k x0_0 x0_1 σ:=by
  cases k with
  | zero=>simp only[d_heap_Heap_claim_c1,hide_eq]; rfl
  | succ k=>rw[d_heap_Heap_claim_c1_eq,b_heap_Heap_claim_c1,s_heap_Heap_claim_c1]; simp only[fI_eq,fN_eq,fB_eq,fP_eq,fA_eq,fS_eq,fO_eq,fV_eq,fL_eq,fMem_eq,fMm_eq,fR_eq,allocS_eq,stNS_eq,st1S_eq,setMS_eq]
theorem heap_Heap_claim_c1_raw (k:Nat) (x0_0:Int) (x0_1:Int) (σ:AMem):fn P (XK Kn.b) H k 166 [.agg #[.int .i64 x0_0,.int .i64 x0_1]] σ=d_heap_Heap_claim_c1 k x0_0 x0_1 σ:=by
  simp only[d_heap_Heap_claim_c1,hide_eq]
noncomputable def s_callN_ii_t (k:Nat) (n:FuncId) (l:List Value) (σ:AMem):Option (Value × AMem):=
  if n=166 then (match l with
    | [.agg ⟨[.int .i64 y1,.int .i64 y2]⟩]=>s_heap_Heap_claim_c1 k y1 y2 σ
    | l=>fn P (XK Kn.b) H k 166 l σ) else
  fn P (XK Kn.b) H k n l σ
theorem callN_ii_t_is (k:Nat) (n:FuncId) (l:List Value) (σ:AMem):fn P (XK Kn.b) H k n l σ=s_callN_ii_t k n l σ:=by
  unfold s_callN_ii_t
  split
  · rename_i hn; subst hn
    split
    · exact (heap_Heap_claim_c1_raw k _ _ σ).trans (heap_Heap_claim_c1_is k _ _ σ)
    · rfl
  rfl
noncomputable def s_callV_ii_t (k:Nat) (f:Value) (args:List Value) (σ:AMem):Option (Value × AMem):=match f with
  | .func (.func n) first cap=>s_callN_ii_t k n (first.toList++args++cap.toList) σ
  | .func (.method nm) first _=>(match first.toList++args with
    | .iface t v::rest=>(methodF P t nm).bind fun n=>s_callN_ii_t k n (v::rest) σ
    | _=>none)
  | _=>none
theorem callV_ii_t_is (k:Nat) (f:Value) (args:List Value) (σ:AMem):d_callV_ii_t k f args σ=s_callV_ii_t k f args σ:=by
  simp only[d_callV_ii_t,hide_eq]
  unfold callVal s_callV_ii_t
  simp only[callN_ii_t_is]
  rfl
noncomputable def s_slices_IndexFunc_heap_block_l0 (k n:Nat) (p0:Option Addr) (c1:Nat) (c2:Nat) (v3:Value) (i4:Int) (x8:Int) (σ:AMem):Option LOut:=match n with
  | 0=>none
  | n+1=>(fP p0 fun p0=>fN c1 fun c1=>fN c2 fun c2=>fI i4 fun i4=>fI x8 fun x8=>fL σ fun σ=>bif decide (x8<i4) then (if 0≤x8∧x8<(c1:Nat) then p0.bind fun a1=>(ldI .i64 σ a1.block (a1.off+x8.toNat*2)).bind fun n2=>(ldI .i64 σ a1.block (a1.off+x8.toNat*2+1)).bind fun n3=>(s_callV_ii_t k v3 [.agg #[.int .i64 n2,.int .i64 n3]] σ).bind fun r4=>(toB r4.1).bind fun b5=>bif b5 then (some (.ret,[.int .i64 x8],r4.2)) else (s_slices_IndexFunc_heap_block_l0 k n p0 c1 c2 v3 i4 (w64 (x8+(1:Int))) r4.2) else none) else (some (.exit 0,[],σ)))
termination_by structural n
theorem slices_IndexFunc_heap_block_l0_is (k n:Nat) (p0:Option Addr) (c1:Nat) (c2:Nat) (v3:Value) (i4:Int) (x8:Int) (σ:AMem):d_slices_IndexFunc_heap_block_l0 k n p0 c1 c2 v3 i4 x8 σ=s_slices_IndexFunc_heap_block_l0 k n p0 c1 c2 v3 i4 x8 σ:=by
  induction n generalizing p0 c1 c2 v3 i4 x8 σ with
  | zero=>simp only[d_slices_IndexFunc_heap_block_l0,hide_eq]; rfl
  | succ n ih=>rw[d_slices_IndexFunc_heap_block_l0_eq,b_slices_IndexFunc_heap_block_l0,s_slices_IndexFunc_heap_block_l0]; simp only[callV_ii_t_is,ih,fI_eq,fN_eq,fB_eq,fP_eq,fA_eq,fS_eq,fO_eq,fV_eq,fL_eq,fMem_eq,fMm_eq,fR_eq,allocS_eq,stNS_eq,st1S_eq,setMS_eq]
noncomputable def s_slices_IndexFunc_heap_block (k:Nat) (x0:Option Addr × Nat × Nat) (x1:Value) (σ:AMem):Option (Value × AMem):=match k with
  | 0=>none
  | k+1=>(fS x0 fun x0=>fL σ fun σ=>(s_slices_IndexFunc_heap_block_l0 k k x0.1 x0.2.1 x0.2.2 x1 ((x0.2.1:Nat):Int) (0:Int) σ).bind fun r6=>if r6.1 = .exit 0 then (fI (-1:Int) fun y7=>some (.int .i64 y7,r6.2.2)) else if r6.1 = .ret then (u_i r6.2.1 fun n8=>fI n8 fun y9=>some (.int .i64 y9,r6.2.2)) else none)
theorem slices_IndexFunc_heap_block_is (k:Nat) (x0:Option Addr × Nat × Nat) (x1:Value) (σ:AMem):d_slices_IndexFunc_heap_block k x0 x1 σ=s_slices_IndexFunc_heap_block k x0 x1 σ:=by
  cases k with
  | zero=>simp only[d_slices_IndexFunc_heap_block,hide_eq]; rfl
  | succ k=>rw[d_slices_IndexFunc_heap_block_eq,b_slices_IndexFunc_heap_block,s_slices_IndexFunc_heap_block]; simp only[callV_ii_t_is,slices_IndexFunc_heap_block_l0_is,fI_eq,fN_eq,fB_eq,fP_eq,fA_eq,fS_eq,fO_eq,fV_eq,fL_eq,fMem_eq,fMm_eq,fR_eq,allocS_eq,stNS_eq,st1S_eq,setMS_eq]
noncomputable def s_slices_ContainsFunc_heap_block (k:Nat) (x0:Option Addr × Nat × Nat) (x1:Value) (σ:AMem):Option (Value × AMem):=match k with
  | 0=>none
  | k+1=>(fS x0 fun x0=>fL σ fun σ=>(s_slices_IndexFunc_heap_block k (x0.1,x0.2.1,x0.2.2) (x1) σ).bind fun r1=>(toI .i64 r1.1).bind fun n2=>fB (decide (n2≥(0:Int))) fun y3=>some (.bool y3,r1.2))
theorem slices_ContainsFunc_heap_block_is (k:Nat) (x0:Option Addr × Nat × Nat) (x1:Value) (σ:AMem):d_slices_ContainsFunc_heap_block k x0 x1 σ=s_slices_ContainsFunc_heap_block k x0 x1 σ:=by
  cases k with
  | zero=>simp only[d_slices_ContainsFunc_heap_block,hide_eq]; rfl
  | succ k=>rw[d_slices_ContainsFunc_heap_block_eq,b_slices_ContainsFunc_heap_block,s_slices_ContainsFunc_heap_block]; simp only[slices_IndexFunc_heap_block_is,fI_eq,fN_eq,fB_eq,fP_eq,fA_eq,fS_eq,fO_eq,fV_eq,fL_eq,fMem_eq,fMm_eq,fR_eq,allocS_eq,stNS_eq,st1S_eq,setMS_eq]
noncomputable def s_heap_Heap_claim_l0 (k n:Nat) (p0:Option Addr) (i1:Int) (h2:Nat) (i3:Int) (x54:Int) (σ:AMem):Option LOut:=match n with
  | 0=>none
  | n+1=>(fP p0 fun p0=>fI i1 fun i1=>fN h2 fun h2=>fI i3 fun i3=>fI x54 fun x54=>fL σ fun σ=>bif decide (x54<i3) then (p0.bind fun a25=>(ldS σ a25.block (a25.off+0)).bind fun l26=>(ldI .i64 σ h2 0).bind fun n27=>(ldI .i64 σ h2 (0+1)).bind fun n28=>if 0≤(w64 (i1+x54))∧(w64 (i1+x54))<(l26.2.1:Nat) then l26.1.bind fun a29=>stNS σ a29.block (a29.off+(w64 (i1+x54)).toNat*2) [.int .i64 n27,.int .i64 n28] fun s30=>s_heap_Heap_claim_l0 k n p0 i1 h2 i3 (w64 (x54+(1:Int))) s30 else none) else (some (.exit 1,[],σ)))
termination_by structural n
theorem heap_Heap_claim_l0_is (k n:Nat) (p0:Option Addr) (i1:Int) (h2:Nat) (i3:Int) (x54:Int) (σ:AMem):d_heap_Heap_claim_l0 k n p0 i1 h2 i3 x54 σ=s_heap_Heap_claim_l0 k n p0 i1 h2 i3 x54 σ:=by
  induction n generalizing p0 i1 h2 i3 x54 σ with
  | zero=>simp only[d_heap_Heap_claim_l0,hide_eq]; rfl
  | succ n ih=>rw[d_heap_Heap_claim_l0_eq,b_heap_Heap_claim_l0,s_heap_Heap_claim_l0]; simp only[heap_Heap_made_is,heap_space_is,heap_Heap_there_is,slices_ContainsFunc_heap_block_is,ih,fI_eq,fN_eq,fB_eq,fP_eq,fA_eq,fS_eq,fO_eq,fV_eq,fL_eq,fMem_eq,fMm_eq,fR_eq,allocS_eq,stNS_eq,st1S_eq,setMS_eq]
noncomputable def s_heap_Heap_claim (k:Nat) (x0:Option Addr) (x1:Int) (x2:Int) (x3_0:Int) (x3_1:Int) (x4_0:Int) (x4_1:Int) (σ:AMem):Option (Value × AMem):=match k with
  | 0=>none
  | k+1=>(fP x0 fun x0=>fI x1 fun x1=>fI x2 fun x2=>fI x3_0 fun x3_0=>fI x3_1 fun x3_1=>fI x4_0 fun x4_0=>fI x4_1 fun x4_1=>fL σ fun σ=>allocS σ (.cells [.int .i64 x3_0,.int .i64 x3_1] 104 true) fun h1 s2=>allocS s2 (.cells [.int .i64 x4_0,.int .i64 x4_1] 104 true) fun h3 s4=>(s_heap_Heap_made k x0 s4).bind fun r5=>(toB r5.1).bind fun b6=>bif !b6 then (fI (5:Int) fun y7=>some (.int .i64 y7,r5.2)) else ((s_heap_Heap_there k x0 x1 r5.2).bind fun r8=>(toB r8.1).bind fun b9=>(bif !b9 then some (true,r8.2) else some (decide (x2<(1:Int)),r8.2)).bind fun r10=>(bif r10.1 then some (true,r10.2) else x0.bind fun a11=>(ldS r10.2 a11.block (a11.off+0)).bind fun l12=>some (decide (x2>(w64 (((l12.2.1:Nat):Int)-x1))),r10.2)).bind fun r13=>(bif r13.1 then some (true,r13.2) else (ldI .i64 r13.2 h1 (0+1)).bind fun n14=>(s_heap_space k n14 r13.2).bind fun r15=>(toB r15.1).bind fun b16=>some (!b16,r15.2)).bind fun r17=>bif r17.1 then (fI (1:Int) fun y18=>some (.int .i64 y18,r17.2)) else (x0.bind fun a19=>(ldS r17.2 a19.block (a19.off+0)).bind fun l20=>(sliceD 104 2 (l20.1,l20.2.1,l20.2.2) (some (.int .i64 x1)) (some (.int .i64 (w64 (x1+x2)))) none r17.2).bind fun l21=>(s_slices_ContainsFunc_heap_block k (l21.1,l21.2.1,l21.2.2) (.func (.func 166) #[] #[]) r17.2).bind fun r22=>(toB r22.1).bind fun b23=>bif b23 then (fI (8:Int) fun y24=>some (.int .i64 y24,r22.2)) else ((s_heap_Heap_claim_l0 k k x0 x1 h3 x2 (0:Int) r22.2).bind fun r31=>if r31.1 = .exit 1 then (x0.bind fun a32=>(ldS r31.2.2 a32.block (a32.off+0)).bind fun l33=>(ldI .i64 r31.2.2 h1 0).bind fun n34=>(ldI .i64 r31.2.2 h1 (0+1)).bind fun n35=>if 0≤x1∧x1<(l33.2.1:Nat) then l33.1.bind fun a36=>stNS r31.2.2 a36.block (a36.off+x1.toNat*2) [.int .i64 n34,.int .i64 n35] fun s37=>fI (0:Int) fun y38=>some (.int .i64 y38,s37) else none) else none))))
theorem heap_Heap_claim_is (k:Nat) (x0:Option Addr) (x1:Int) (x2:Int) (x3_0:Int) (x3_1:Int) (x4_0:Int) (x4_1:Int) (σ:AMem):d_heap_Heap_claim k x0 x1 x2 x3_0 x3_1 x4_0 x4_1 σ=s_heap_Heap_claim k x0 x1 x2 x3_0 x3_1 x4_0 x4_1 σ:=by
  cases k with
  | zero=>simp only[d_heap_Heap_claim,hide_eq]; rfl
  | succ k=>rw[d_heap_Heap_claim_eq,b_heap_Heap_claim,s_heap_Heap_claim]; simp only[heap_Heap_made_is,heap_space_is,heap_Heap_there_is,slices_ContainsFunc_heap_block_is,heap_Heap_claim_l0_is,fI_eq,fN_eq,fB_eq,fP_eq,fA_eq,fS_eq,fO_eq,fV_eq,fL_eq,fMem_eq,fMm_eq,fR_eq,allocS_eq,stNS_eq,st1S_eq,setMS_eq]
noncomputable def s_heap_Heap_Claim (k:Nat) (x0:Option Addr) (x1:Int) (x2:Int) (σ:AMem):Option (Value × AMem):=match k with
  | 0=>none
  | k+1=>(fP x0 fun x0=>fI x1 fun x1=>fI x2 fun x2=>fL σ fun σ=>(s_heap_Heap_claim k x0 x1 (1:Int) (1:Int) x2 (0:Int) (0:Int) σ).bind fun r1=>(toI .i64 r1.1).bind fun n2=>fI n2 fun y3=>some (.int .i64 y3,r1.2))
theorem heap_Heap_Claim_is (k:Nat) (x0:Option Addr) (x1:Int) (x2:Int) (σ:AMem):d_heap_Heap_Claim k x0 x1 x2 σ=s_heap_Heap_Claim k x0 x1 x2 σ:=by
  cases k with
  | zero=>simp only[d_heap_Heap_Claim,hide_eq]; rfl
  | succ k=>rw[d_heap_Heap_Claim_eq,b_heap_Heap_Claim,s_heap_Heap_Claim]; simp only[heap_Heap_claim_is,fI_eq,fN_eq,fB_eq,fP_eq,fA_eq,fS_eq,fO_eq,fV_eq,fL_eq,fMem_eq,fMm_eq,fR_eq,allocS_eq,stNS_eq,st1S_eq,setMS_eq]
noncomputable def s_heap_Valid (k:Nat) (x0_0:Int) (x0_1:Int) (x0_2:Int) (σ:AMem):Option (Value × AMem):=match k with
  | 0=>none
  | k+1=>(fI x0_0 fun x0_0=>fI x0_1 fun x0_1=>fI x0_2 fun x0_2=>fL σ fun σ=>allocS σ (.cells [.int .i64 x0_0,.int .i64 x0_1,.int .i64 x0_2] 33 true) fun h1 s2=>(ldI .i64 s2 h1 (0+0)).bind fun n3=>(bif decide (n3≥(0:Int)) then (ldI .i64 s2 h1 (0+0)).bind fun n4=>some (decide (n4≤(15:Int)),s2) else some (false,s2)).bind fun r5=>(bif r5.1 then (ldI .i64 r5.2 h1 (0+1)).bind fun n6=>some (decide (n6≥(0:Int)),r5.2) else some (false,r5.2)).bind fun r7=>(bif r7.1 then (ldI .i64 r7.2 h1 (0+1)).bind fun n8=>some (decide (n8≤(200:Int)),r7.2) else some (false,r7.2)).bind fun r9=>(bif r9.1 then (ldI .i64 r9.2 h1 (0+2)).bind fun n10=>some (decide (n10≥(0:Int)),r9.2) else some (false,r9.2)).bind fun r11=>(bif r11.1 then (ldI .i64 r11.2 h1 (0+2)).bind fun n12=>some (decide (n12≤(3:Int)),r11.2) else some (false,r11.2)).bind fun r13=>(bif r13.1 then (ldI .i64 r13.2 h1 (0+2)).bind fun n14=>(bif n14 != (1:Int) then some (true,r13.2) else (ldI .i64 r13.2 h1 (0+0)).bind fun n15=>some (decide (n15≥(1:Int)),r13.2)).bind fun r16=>some (r16.1,r16.2) else some (false,r13.2)).bind fun r17=>(bif r17.1 then (ldI .i64 r17.2 h1 (0+2)).bind fun n18=>(bif n18 != (2:Int) then some (true,r17.2) else (ldI .i64 r17.2 h1 (0+0)).bind fun n19=>some (decide (n19≥(2:Int)),r17.2)).bind fun r20=>some (r20.1,r20.2) else some (false,r17.2)).bind fun r21=>fB r21.1 fun y22=>some (.bool y22,r21.2))
theorem heap_Valid_is (k:Nat) (x0_0:Int) (x0_1:Int) (x0_2:Int) (σ:AMem):d_heap_Valid k x0_0 x0_1 x0_2 σ=s_heap_Valid k x0_0 x0_1 x0_2 σ:=by
  cases k with
  | zero=>simp only[d_heap_Valid,hide_eq]; rfl
  | succ k=>rw[d_heap_Valid_eq,b_heap_Valid,s_heap_Valid]; simp only[fI_eq,fN_eq,fB_eq,fP_eq,fA_eq,fS_eq,fO_eq,fV_eq,fL_eq,fMem_eq,fMm_eq,fR_eq,allocS_eq,stNS_eq,st1S_eq,setMS_eq]
noncomputable def s_heap_Words (k:Nat) (x0_0:Int) (x0_1:Int) (x0_2:Int) (σ:AMem):Option (Value × AMem):=match k with
  | 0=>none
  | k+1=>(fI x0_0 fun x0_0=>fI x0_1 fun x0_1=>fI x0_2 fun x0_2=>fL σ fun σ=>allocS σ (.cells [.int .i64 x0_0,.int .i64 x0_1,.int .i64 x0_2] 33 true) fun h1 s2=>(ldI .i64 s2 h1 0).bind fun n3=>(ldI .i64 s2 h1 (0+1)).bind fun n4=>(ldI .i64 s2 h1 (0+1+1)).bind fun n5=>(s_heap_Valid k n3 n4 n5 s2).bind fun r6=>(toB r6.1).bind fun b7=>bif !b7 then (fI (0:Int) fun y8=>some (.int .i64 y8,r6.2)) else ((ldI .i64 r6.2 h1 (0+0)).bind fun n9=>(ldI .i64 r6.2 h1 (0+1)).bind fun n10=>if (2:Int)=0 then none else fI (w64 ((w64 ((w64 ((w64 ((w64 ((2:Int)+n9))+n10))+(1:Int))).tdiv (2:Int)))*(2:Int))) fun y11=>some (.int .i64 y11,r6.2)))
theorem heap_Words_is (k:Nat) (x0_0:Int) (x0_1:Int) (x0_2:Int) (σ:AMem):d_heap_Words k x0_0 x0_1 x0_2 σ=s_heap_Words k x0_0 x0_1 x0_2 σ:=by
  cases k with
  | zero=>simp only[d_heap_Words,hide_eq]; rfl
  | succ k=>rw[d_heap_Words_eq,b_heap_Words,s_heap_Words]; simp only[heap_Valid_is,fI_eq,fN_eq,fB_eq,fP_eq,fA_eq,fS_eq,fO_eq,fV_eq,fL_eq,fMem_eq,fMm_eq,fR_eq,allocS_eq,stNS_eq,st1S_eq,setMS_eq]
noncomputable def s_heap_Heap_span_l0 (k n:Nat) (p0:Option Addr) (i1:Int) (x5:Int) (σ:AMem):Option LOut:=match n with
  | 0=>none
  | n+1=>(fP p0 fun p0=>fI i1 fun i1=>fI x5 fun x5=>fL σ fun σ=>p0.bind fun a1=>(ldS σ a1.block (a1.off+0)).bind fun l2=>if 0≤i1∧i1<(l2.2.1:Nat) then l2.1.bind fun a3=>(ldI .i64 σ a3.block (a3.off+i1.toNat*2+0)).bind fun n4=>(bif n4 == (2:Int) then p0.bind fun a5=>(ldS σ a5.block (a5.off+0)).bind fun l6=>some (decide ((w64 (i1+x5))<((l6.2.1:Nat):Int)),σ) else some (false,σ)).bind fun r7=>(bif r7.1 then p0.bind fun a8=>(ldS r7.2 a8.block (a8.off+0)).bind fun l9=>if 0≤(w64 (i1+x5))∧(w64 (i1+x5))<(l9.2.1:Nat) then l9.1.bind fun a10=>(ldI .i64 r7.2 a10.block (a10.off+(w64 (i1+x5)).toNat*2+0)).bind fun n11=>some (n11 == (3:Int),r7.2) else none else some (false,r7.2)).bind fun r12=>bif r12.1 then (s_heap_Heap_span_l0 k n p0 i1 (w64 (x5+(1:Int))) r12.2) else (some (.exit 0,[.int .i64 x5],r12.2)) else none)
termination_by structural n
theorem heap_Heap_span_l0_is (k n:Nat) (p0:Option Addr) (i1:Int) (x5:Int) (σ:AMem):d_heap_Heap_span_l0 k n p0 i1 x5 σ=s_heap_Heap_span_l0 k n p0 i1 x5 σ:=by
  induction n generalizing p0 i1 x5 σ with
  | zero=>simp only[d_heap_Heap_span_l0,hide_eq]; rfl
  | succ n ih=>rw[d_heap_Heap_span_l0_eq,b_heap_Heap_span_l0,s_heap_Heap_span_l0]; simp only[ih,fI_eq,fN_eq,fB_eq,fP_eq,fA_eq,fS_eq,fO_eq,fV_eq,fL_eq,fMem_eq,fMm_eq,fR_eq,allocS_eq,stNS_eq,st1S_eq,setMS_eq]
noncomputable def s_heap_Heap_span (k:Nat) (x0:Option Addr) (x1:Int) (σ:AMem):Option (Value × AMem):=match k with
  | 0=>none
  | k+1=>(fP x0 fun x0=>fI x1 fun x1=>fL σ fun σ=>(s_heap_Heap_span_l0 k k x0 x1 (1:Int) σ).bind fun r13=>if r13.1 = .exit 0 then (u_i r13.2.1 fun n14=>fI n14 fun y15=>some (.int .i64 y15,r13.2.2)) else none)
theorem heap_Heap_span_is (k:Nat) (x0:Option Addr) (x1:Int) (σ:AMem):d_heap_Heap_span k x0 x1 σ=s_heap_Heap_span k x0 x1 σ:=by
  cases k with
  | zero=>simp only[d_heap_Heap_span,hide_eq]; rfl
  | succ k=>rw[d_heap_Heap_span_eq,b_heap_Heap_span,s_heap_Heap_span]; simp only[heap_Heap_span_l0_is,fI_eq,fN_eq,fB_eq,fP_eq,fA_eq,fS_eq,fO_eq,fV_eq,fL_eq,fMem_eq,fMm_eq,fR_eq,allocS_eq,stNS_eq,st1S_eq,setMS_eq]
noncomputable def s_heap_shape (k:Nat) (x0:Int) (σ:AMem):Option (Value × AMem):=match k with
  | 0=>none
  | k+1=>(fI x0 fun x0=>fL σ fun σ=>allocS σ (.cells [.int .i64 (0:Int),.int .i64 (0:Int),.int .i64 (0:Int)] 33 true) fun h1 s2=>if (16:Int)=0 then none else if (4096:Int)=0 then none else if (16:Int)=0 then none else if (4096:Int)=0 then none else stNS s2 h1 0 [.int .i64 (x0.tmod (16:Int)),.int .i64 (w64 ((x0.tmod (4096:Int)).tdiv (16:Int))),.int .i64 (w64 (x0.tdiv (4096:Int)))] fun s3=>(((ldN s3 h1 0 3).bind fun v4=>some (.agg v4.toArray)).bind fun v5=>some [v5]).bind fun vs6=>some (resOf vs6,s3))
theorem heap_shape_is (k:Nat) (x0:Int) (σ:AMem):d_heap_shape k x0 σ=s_heap_shape k x0 σ:=by
  cases k with
  | zero=>simp only[d_heap_shape,hide_eq]; rfl
  | succ k=>rw[d_heap_shape_eq,b_heap_shape,s_heap_shape]; simp only[fI_eq,fN_eq,fB_eq,fP_eq,fA_eq,fS_eq,fO_eq,fV_eq,fL_eq,fMem_eq,fMm_eq,fR_eq,allocS_eq,stNS_eq,st1S_eq,setMS_eq]
noncomputable def s_heap_Heap_size (k:Nat) (x0:Option Addr) (x1:Int) (σ:AMem):Option (Value × AMem):=match k with
  | 0=>none
  | k+1=>(fP x0 fun x0=>fI x1 fun x1=>fL σ fun σ=>x0.bind fun a1=>(ldS σ a1.block (a1.off+1)).bind fun l2=>if 0≤(w64 (x1+(1:Int)))∧(w64 (x1+(1:Int)))<(l2.2.1:Nat) then l2.1.bind fun a3=>(ldI .i64 σ a3.block (a3.off+(w64 (x1+(1:Int))).toNat*1)).bind fun n4=>(s_heap_shape k n4 σ).bind fun r5=>a_iii r5.1 fun n6 n7 n8=>(s_heap_Words k n6 n7 n8 r5.2).bind fun r9=>(toI .i64 r9.1).bind fun n10=>fI n10 fun y11=>some (.int .i64 y11,r9.2) else none)
theorem heap_Heap_size_is (k:Nat) (x0:Option Addr) (x1:Int) (σ:AMem):d_heap_Heap_size k x0 x1 σ=s_heap_Heap_size k x0 x1 σ:=by
  cases k with
  | zero=>simp only[d_heap_Heap_size,hide_eq]; rfl
  | succ k=>rw[d_heap_Heap_size_eq,b_heap_Heap_size,s_heap_Heap_size]; simp only[heap_Words_is,heap_shape_is,fI_eq,fN_eq,fB_eq,fP_eq,fA_eq,fS_eq,fO_eq,fV_eq,fL_eq,fMem_eq,fMm_eq,fR_eq,allocS_eq,stNS_eq,st1S_eq,setMS_eq]
noncomputable def s_side_Table_made (k:Nat) (x0:Option Addr) (σ:AMem):Option (Value × AMem):=match k with
  | 0=>none
  | k+1=>(fP x0 fun x0=>fL σ fun σ=>(eqA P 92 (.pointer x0) (.pointer none)).bind fun e1=>(bif !e1 then x0.bind fun a2=>(ldI .i64 σ a2.block (a2.off+0)).bind fun n3=>some (decide (n3>(0:Int)),σ) else some (false,σ)).bind fun r4=>fB r4.1 fun y5=>some (.bool y5,r4.2))
theorem side_Table_made_is (k:Nat) (x0:Option Addr) (σ:AMem):d_side_Table_made k x0 σ=s_side_Table_made k x0 σ:=by
  cases k with
  | zero=>simp only[d_side_Table_made,hide_eq]; rfl
  | succ k=>rw[d_side_Table_made_eq,b_side_Table_made,s_side_Table_made]; simp only[fI_eq,fN_eq,fB_eq,fP_eq,fA_eq,fS_eq,fO_eq,fV_eq,fL_eq,fMem_eq,fMm_eq,fR_eq,allocS_eq,stNS_eq,st1S_eq,setMS_eq]
noncomputable def s_side_Table_most (k:Nat) (x0:Option Addr) (σ:AMem):Option (Value × AMem):=match k with
  | 0=>none
  | k+1=>(fP x0 fun x0=>fL σ fun σ=>x0.bind fun a1=>(ldI .i64 σ a1.block (a1.off+1)).bind fun n2=>if n2<0 then none else fI (w64 ((w64 ((1:Int)*2 ^ (min n2.toNat 64)))-(1:Int))) fun y3=>some (.int .i64 y3,σ))
theorem side_Table_most_is (k:Nat) (x0:Option Addr) (σ:AMem):d_side_Table_most k x0 σ=s_side_Table_most k x0 σ:=by
  cases k with
  | zero=>simp only[d_side_Table_most,hide_eq]; rfl
  | succ k=>rw[d_side_Table_most_eq,b_side_Table_most,s_side_Table_most]; simp only[fI_eq,fN_eq,fB_eq,fP_eq,fA_eq,fS_eq,fO_eq,fV_eq,fL_eq,fMem_eq,fMm_eq,fR_eq,allocS_eq,stNS_eq,st1S_eq,setMS_eq]
noncomputable def s_side_Table_get (k:Nat) (x0:Option Addr) (x1:Int) (σ:AMem):Option (Value × AMem):=match k with
  | 0=>none
  | k+1=>(fP x0 fun x0=>fI x1 fun x1=>fL σ fun σ=>x0.bind fun a1=>(ldI .i64 σ a1.block (a1.off+1)).bind fun n2=>x0.bind fun a3=>(ldS σ a3.block (a3.off+2)).bind fun l4=>if (64:Int)=0 then none else if 0≤(w64 ((w64 (x1*n2)).tdiv (64:Int)))∧(w64 ((w64 (x1*n2)).tdiv (64:Int)))<(l4.2.1:Nat) then l4.1.bind fun a5=>(ldI .u64 σ a5.block (a5.off+(w64 ((w64 (x1*n2)).tdiv (64:Int))).toNat*1)).bind fun n6=>if (64:Int)=0 then none else if ((w64 (x1*n2)).tmod (64:Int))<0 then none else (s_side_Table_most k x0 σ).bind fun r7=>(toI .i64 r7.1).bind fun n8=>fI (w64 ((BitVec.ofInt 64 (w64 (n6.fdiv (2 ^ (min ((w64 (x1*n2)).tmod (64:Int)).toNat 64)))) &&& BitVec.ofInt 64 n8).toNat)) fun y9=>some (.int .i64 y9,r7.2) else none)
theorem side_Table_get_is (k:Nat) (x0:Option Addr) (x1:Int) (σ:AMem):d_side_Table_get k x0 x1 σ=s_side_Table_get k x0 x1 σ:=by
  cases k with
  | zero=>simp only[d_side_Table_get,hide_eq]; rfl
  | succ k=>rw[d_side_Table_get_eq,b_side_Table_get,s_side_Table_get]; simp only[side_Table_most_is,fI_eq,fN_eq,fB_eq,fP_eq,fA_eq,fS_eq,fO_eq,fV_eq,fL_eq,fMem_eq,fMm_eq,fR_eq,allocS_eq,stNS_eq,st1S_eq,setMS_eq]
noncomputable def s_side_Table_Last_l0 (k n:Nat) (p0:Option Addr) (i1:Int) (x8:Int) (σ:AMem):Option LOut:=match n with
  | 0=>none
  | n+1=>(fP p0 fun p0=>fI i1 fun i1=>fI x8 fun x8=>fL σ fun σ=>bif decide (x8≥(0:Int)) then ((s_side_Table_get k p0 x8 σ).bind fun r7=>(toI .i64 r7.1).bind fun n8=>bif n8 == i1 then (some (.ret,[.int .i64 x8,.int .i64 (0:Int)],r7.2)) else (s_side_Table_Last_l0 k n p0 i1 (w64 (x8-(1:Int))) r7.2)) else (some (.exit 0,[],σ)))
termination_by structural n
theorem side_Table_Last_l0_is (k n:Nat) (p0:Option Addr) (i1:Int) (x8:Int) (σ:AMem):d_side_Table_Last_l0 k n p0 i1 x8 σ=s_side_Table_Last_l0 k n p0 i1 x8 σ:=by
  induction n generalizing p0 i1 x8 σ with
  | zero=>simp only[d_side_Table_Last_l0,hide_eq]; rfl
  | succ n ih=>rw[d_side_Table_Last_l0_eq,b_side_Table_Last_l0,s_side_Table_Last_l0]; simp only[side_Table_made_is,side_Table_get_is,ih,fI_eq,fN_eq,fB_eq,fP_eq,fA_eq,fS_eq,fO_eq,fV_eq,fL_eq,fMem_eq,fMm_eq,fR_eq,allocS_eq,stNS_eq,st1S_eq,setMS_eq]
noncomputable def s_side_Table_Last (k:Nat) (x0:Option Addr) (x1:Int) (x2:Int) (σ:AMem):Option (Value × AMem):=match k with
  | 0=>none
  | k+1=>(fP x0 fun x0=>fI x1 fun x1=>fI x2 fun x2=>fL σ fun σ=>(s_side_Table_made k x0 σ).bind fun r1=>(toB r1.1).bind fun b2=>bif !b2 then (fI (0:Int) fun y3=>fI (5:Int) fun y4=>some (.tuple #[.int .i64 y3,.int .i64 y4],r1.2)) else (x0.bind fun a5=>(ldI .i64 r1.2 a5.block (a5.off+0)).bind fun n6=>(s_side_Table_Last_l0 k k x0 x2 (w64 ((if n6<(if (0:Int)>x1 then (0:Int) else x1) then n6 else (if (0:Int)>x1 then (0:Int) else x1))-(1:Int))) r1.2).bind fun r9=>if r9.1 = .exit 0 then (fI (0:Int) fun y10=>fI (4:Int) fun y11=>some (.tuple #[.int .i64 y10,.int .i64 y11],r9.2.2)) else if r9.1 = .ret then (u_ii r9.2.1 fun n12 n13=>fI n12 fun y14=>fI n13 fun y15=>some (.tuple #[.int .i64 y14,.int .i64 y15],r9.2.2)) else none))
theorem side_Table_Last_is (k:Nat) (x0:Option Addr) (x1:Int) (x2:Int) (σ:AMem):d_side_Table_Last k x0 x1 x2 σ=s_side_Table_Last k x0 x1 x2 σ:=by
  cases k with
  | zero=>simp only[d_side_Table_Last,hide_eq]; rfl
  | succ k=>rw[d_side_Table_Last_eq,b_side_Table_Last,s_side_Table_Last]; simp only[side_Table_made_is,side_Table_get_is,side_Table_Last_l0_is,fI_eq,fN_eq,fB_eq,fP_eq,fA_eq,fS_eq,fO_eq,fV_eq,fL_eq,fMem_eq,fMm_eq,fR_eq,allocS_eq,stNS_eq,st1S_eq,setMS_eq]
noncomputable def s_heap_Heap_Find (k:Nat) (x0:Option Addr) (x1:Int) (σ:AMem):Option (Value × AMem):=match k with
  | 0=>none
  | k+1=>(fP x0 fun x0=>fI x1 fun x1=>fL σ fun σ=>(s_heap_Heap_made k x0 σ).bind fun r1=>(toB r1.1).bind fun b2=>bif !b2 then (fI (0:Int) fun y3=>fI (5:Int) fun y4=>some (.tuple #[.int .i64 y3,.int .i64 y4],r1.2)) else ((bif decide (x1<(0:Int)) then some (true,r1.2) else x0.bind fun a5=>(ldS r1.2 a5.block (a5.off+1)).bind fun l6=>some (decide (x1≥((l6.2.1:Nat):Int)),r1.2)).bind fun r7=>bif r7.1 then (fI (0:Int) fun y8=>fI (4:Int) fun y9=>some (.tuple #[.int .i64 y8,.int .i64 y9],r7.2)) else (x0.bind fun a10=>(ldP r7.2 a10.block (a10.off+2)).bind fun p11=>if (2:Int)=0 then none else (s_side_Table_Last k p11 (w64 ((w64 (x1.tdiv (2:Int)))+(1:Int))) (1:Int) r7.2).bind fun r12=>r_ii r12.1 fun n13 n14=>(bif n14 != (0:Int) then some (true,r12.2) else (s_heap_Heap_size k x0 (w64 ((2:Int)*n13)) r12.2).bind fun r15=>(toI .i64 r15.1).bind fun n16=>some (decide (x1≥(w64 ((w64 ((2:Int)*n13))+n16))),r15.2)).bind fun r17=>bif r17.1 then (fI (0:Int) fun y18=>fI (4:Int) fun y19=>some (.tuple #[.int .i64 y18,.int .i64 y19],r17.2)) else (fI (w64 ((2:Int)*n13)) fun y20=>fI (0:Int) fun y21=>some (.tuple #[.int .i64 y20,.int .i64 y21],r17.2)))))
theorem heap_Heap_Find_is (k:Nat) (x0:Option Addr) (x1:Int) (σ:AMem):d_heap_Heap_Find k x0 x1 σ=s_heap_Heap_Find k x0 x1 σ:=by
  cases k with
  | zero=>simp only[d_heap_Heap_Find,hide_eq]; rfl
  | succ k=>rw[d_heap_Heap_Find_eq,b_heap_Heap_Find,s_heap_Heap_Find]; simp only[heap_Heap_made_is,heap_Heap_size_is,side_Table_Last_is,fI_eq,fN_eq,fB_eq,fP_eq,fA_eq,fS_eq,fO_eq,fV_eq,fL_eq,fMem_eq,fMm_eq,fR_eq,allocS_eq,stNS_eq,st1S_eq,setMS_eq]
noncomputable def s_heap_Heap_fits_l0 (k n:Nat) (p0:Option Addr) (i1:Int) (i2:Int) (i3:Int) (x10:Int) (σ:AMem):Option LOut:=match n with
  | 0=>none
  | n+1=>(fP p0 fun p0=>fI i1 fun i1=>fI i2 fun i2=>fI i3 fun i3=>fI x10 fun x10=>fL σ fun σ=>bif decide (x10<(w64 (i1+i2))) then ((s_heap_Heap_Find k p0 x10 σ).bind fun r20=>r_ii r20.1 fun n21 n22=>(bif n22 == (0:Int) then some (n21 != i3,r20.2) else some (false,r20.2)).bind fun r23=>bif r23.1 then (some (.ret,[.int .i64 (8:Int)],r23.2)) else (s_heap_Heap_fits_l0 k n p0 i1 i2 i3 (w64 (x10+(2:Int))) r23.2)) else (some (.exit 0,[],σ)))
termination_by structural n
theorem heap_Heap_fits_l0_is (k n:Nat) (p0:Option Addr) (i1:Int) (i2:Int) (i3:Int) (x10:Int) (σ:AMem):d_heap_Heap_fits_l0 k n p0 i1 i2 i3 x10 σ=s_heap_Heap_fits_l0 k n p0 i1 i2 i3 x10 σ:=by
  induction n generalizing p0 i1 i2 i3 x10 σ with
  | zero=>simp only[d_heap_Heap_fits_l0,hide_eq]; rfl
  | succ n ih=>rw[d_heap_Heap_fits_l0_eq,b_heap_Heap_fits_l0,s_heap_Heap_fits_l0]; simp only[heap_Heap_span_is,heap_Heap_Find_is,ih,fI_eq,fN_eq,fB_eq,fP_eq,fA_eq,fS_eq,fO_eq,fV_eq,fL_eq,fMem_eq,fMm_eq,fR_eq,allocS_eq,stNS_eq,st1S_eq,setMS_eq]
noncomputable def s_heap_Heap_fits (k:Nat) (x0:Option Addr) (x1:Int) (x2:Int) (x3:Int) (σ:AMem):Option (Value × AMem):=match k with
  | 0=>none
  | k+1=>(fP x0 fun x0=>fI x1 fun x1=>fI x2 fun x2=>fI x3 fun x3=>fL σ fun σ=>(bif decide (x1<(0:Int)) then some (true,σ) else x0.bind fun a1=>(ldS σ a1.block (a1.off+1)).bind fun l2=>some (decide (x1≥((l2.2.1:Nat):Int)),σ)).bind fun r3=>(bif r3.1 then some (true,r3.2) else if (2:Int)=0 then none else some ((x1.tmod (2:Int)) != (0:Int),r3.2)).bind fun r4=>bif r4.1 then (fI (1:Int) fun y5=>some (.int .i64 y5,r4.2)) else (if (64:Int)=0 then none else (bif decide (x2≤(32:Int)) then (x0.bind fun a6=>(ldS r4.2 a6.block (a6.off+0)).bind fun l7=>if 0≤(w64 (x1.tdiv (64:Int)))∧(w64 (x1.tdiv (64:Int)))<(l7.2.1:Nat) then l7.1.bind fun a8=>(ldI .i64 r4.2 a8.block (a8.off+(w64 (x1.tdiv (64:Int))).toNat*2+0)).bind fun n9=>(bif n9 != (1:Int) then some (true,r4.2) else if (64:Int)=0 then none else some ((w64 ((w64 ((w64 (x1+x2))-(1:Int))).tdiv (64:Int))) != (w64 (x1.tdiv (64:Int))),r4.2)).bind fun r10=>bif r10.1 then (some (.ret,[.int .i64 (5:Int)],r10.2)) else (some (.normal,[],r10.2)) else none) else (x0.bind fun a11=>(ldS r4.2 a11.block (a11.off+0)).bind fun l12=>if 0≤(w64 (x1.tdiv (64:Int)))∧(w64 (x1.tdiv (64:Int)))<(l12.2.1:Nat) then l12.1.bind fun a13=>(ldI .i64 r4.2 a13.block (a13.off+(w64 (x1.tdiv (64:Int))).toNat*2+0)).bind fun n14=>(bif n14 != (2:Int) then some (true,r4.2) else if (64:Int)=0 then none else some ((x1.tmod (64:Int)) != (0:Int),r4.2)).bind fun r15=>(bif r15.1 then some (true,r15.2) else (s_heap_Heap_span k x0 (w64 (x1.tdiv (64:Int))) r15.2).bind fun r16=>(toI .i64 r16.1).bind fun n17=>if (64:Int)=0 then none else some (n17 != (w64 ((w64 ((w64 (x2+(64:Int)))-(1:Int))).tdiv (64:Int))),r16.2)).bind fun r18=>bif r18.1 then (some (.ret,[.int .i64 (5:Int)],r18.2)) else (some (.normal,[],r18.2)) else none):Option LOut).bind fun r19=>if r19.1 = .normal then ((s_heap_Heap_fits_l0 k k x0 x1 x2 x3 x1 r19.2.2).bind fun r24=>if r24.1 = .exit 0 then (fI (0:Int) fun y25=>some (.int .i64 y25,r24.2.2)) else if r24.1 = .ret then (u_i r24.2.1 fun n26=>fI n26 fun y27=>some (.int .i64 y27,r24.2.2)) else none) else if r19.1 = .ret then (u_i r19.2.1 fun n28=>fI n28 fun y29=>some (.int .i64 y29,r19.2.2)) else none))
theorem heap_Heap_fits_is (k:Nat) (x0:Option Addr) (x1:Int) (x2:Int) (x3:Int) (σ:AMem):d_heap_Heap_fits k x0 x1 x2 x3 σ=s_heap_Heap_fits k x0 x1 x2 x3 σ:=by
  cases k with
  | zero=>simp only[d_heap_Heap_fits,hide_eq]; rfl
  | succ k=>rw[d_heap_Heap_fits_eq,b_heap_Heap_fits,s_heap_Heap_fits]; simp only[heap_Heap_span_is,heap_Heap_Find_is,heap_Heap_fits_l0_is,fI_eq,fN_eq,fB_eq,fP_eq,fA_eq,fS_eq,fO_eq,fV_eq,fL_eq,fMem_eq,fMm_eq,fR_eq,allocS_eq,stNS_eq,st1S_eq,setMS_eq]
noncomputable def s_heap_number (k:Nat) (x0_0:Int) (x0_1:Int) (x0_2:Int) (σ:AMem):Option (Value × AMem):=match k with
  | 0=>none
  | k+1=>(fI x0_0 fun x0_0=>fI x0_1 fun x0_1=>fI x0_2 fun x0_2=>fL σ fun σ=>allocS σ (.cells [.int .i64 x0_0,.int .i64 x0_1,.int .i64 x0_2] 33 true) fun h1 s2=>(ldI .i64 s2 h1 (0+0)).bind fun n3=>(ldI .i64 s2 h1 (0+1)).bind fun n4=>(ldI .i64 s2 h1 (0+2)).bind fun n5=>fI (w64 ((w64 (n3+(w64 ((16:Int)*n4))))+(w64 ((4096:Int)*n5)))) fun y6=>some (.int .i64 y6,s2))
theorem heap_number_is (k:Nat) (x0_0:Int) (x0_1:Int) (x0_2:Int) (σ:AMem):d_heap_number k x0_0 x0_1 x0_2 σ=s_heap_number k x0_0 x0_1 x0_2 σ:=by
  cases k with
  | zero=>simp only[d_heap_number,hide_eq]; rfl
  | succ k=>rw[d_heap_number_eq,b_heap_number,s_heap_number]; simp only[fI_eq,fN_eq,fB_eq,fP_eq,fA_eq,fS_eq,fO_eq,fV_eq,fL_eq,fMem_eq,fMm_eq,fR_eq,allocS_eq,stNS_eq,st1S_eq,setMS_eq]
noncomputable def s_side_Table_there (k:Nat) (x0:Option Addr) (x1:Int) (σ:AMem):Option (Value × AMem):=match k with
  | 0=>none
  | k+1=>(fP x0 fun x0=>fI x1 fun x1=>fL σ fun σ=>(s_side_Table_made k x0 σ).bind fun r1=>(toB r1.1).bind fun b2=>(bif b2 then some (decide (x1≥(0:Int)),r1.2) else some (false,r1.2)).bind fun r3=>(bif r3.1 then x0.bind fun a4=>(ldI .i64 r3.2 a4.block (a4.off+0)).bind fun n5=>some (decide (x1<n5),r3.2) else some (false,r3.2)).bind fun r6=>fB r6.1 fun y7=>some (.bool y7,r6.2))
theorem side_Table_there_is (k:Nat) (x0:Option Addr) (x1:Int) (σ:AMem):d_side_Table_there k x0 x1 σ=s_side_Table_there k x0 x1 σ:=by
  cases k with
  | zero=>simp only[d_side_Table_there,hide_eq]; rfl
  | succ k=>rw[d_side_Table_there_eq,b_side_Table_there,s_side_Table_there]; simp only[side_Table_made_is,fI_eq,fN_eq,fB_eq,fP_eq,fA_eq,fS_eq,fO_eq,fV_eq,fL_eq,fMem_eq,fMm_eq,fR_eq,allocS_eq,stNS_eq,st1S_eq,setMS_eq]
noncomputable def s_side_Table_value (k:Nat) (x0:Option Addr) (x1:Int) (σ:AMem):Option (Value × AMem):=match k with
  | 0=>none
  | k+1=>(fP x0 fun x0=>fI x1 fun x1=>fL σ fun σ=>(bif decide (x1≥(0:Int)) then (s_side_Table_most k x0 σ).bind fun r1=>(toI .i64 r1.1).bind fun n2=>some (decide (x1≤n2),r1.2) else some (false,σ)).bind fun r3=>fB r3.1 fun y4=>some (.bool y4,r3.2))
theorem side_Table_value_is (k:Nat) (x0:Option Addr) (x1:Int) (σ:AMem):d_side_Table_value k x0 x1 σ=s_side_Table_value k x0 x1 σ:=by
  cases k with
  | zero=>simp only[d_side_Table_value,hide_eq]; rfl
  | succ k=>rw[d_side_Table_value_eq,b_side_Table_value,s_side_Table_value]; simp only[side_Table_most_is,fI_eq,fN_eq,fB_eq,fP_eq,fA_eq,fS_eq,fO_eq,fV_eq,fL_eq,fMem_eq,fMm_eq,fR_eq,allocS_eq,stNS_eq,st1S_eq,setMS_eq]
noncomputable def s_side_Table_check_c1 (k:Nat) (x0:Int) (c0:Option Addr) (σ:AMem):Option (Value × AMem):=match k with
  | 0=>none
  | k+1=>(fI x0 fun x0=>fP c0 fun c0=>fL σ fun σ=>c0.bind fun a1=>(ldP σ a1.block a1.off).bind fun p2=>(s_side_Table_value k p2 x0 σ).bind fun r3=>(toB r3.1).bind fun b4=>fB (!b4) fun y5=>some (.bool y5,r3.2))
theorem side_Table_check_c1_is (k:Nat) (x0:Int) (c0:Option Addr) (σ:AMem):d_side_Table_check_c1 k x0 c0 σ=s_side_Table_check_c1 k x0 c0 σ:=by
  cases k with
  | zero=>simp only[d_side_Table_check_c1,hide_eq]; rfl
  | succ k=>rw[d_side_Table_check_c1_eq,b_side_Table_check_c1,s_side_Table_check_c1]; simp only[side_Table_value_is,fI_eq,fN_eq,fB_eq,fP_eq,fA_eq,fS_eq,fO_eq,fV_eq,fL_eq,fMem_eq,fMm_eq,fR_eq,allocS_eq,stNS_eq,st1S_eq,setMS_eq]
theorem side_Table_check_c1_raw (k:Nat) (x0:Int) (c0:Option Addr) (σ:AMem):fn P (XK Kn.b) H k 179 [.int .i64 x0,.pointer c0] σ=d_side_Table_check_c1 k x0 c0 σ:=by
  simp only[d_side_Table_check_c1,hide_eq]
noncomputable def s_callN_i_t (k:Nat) (n:FuncId) (l:List Value) (σ:AMem):Option (Value × AMem):=
  if n=179 then (match l with
    | [.int .i64 y1,.pointer y2]=>s_side_Table_check_c1 k y1 y2 σ
    | l=>fn P (XK Kn.b) H k 179 l σ) else
  fn P (XK Kn.b) H k n l σ
theorem callN_i_t_is (k:Nat) (n:FuncId) (l:List Value) (σ:AMem):fn P (XK Kn.b) H k n l σ=s_callN_i_t k n l σ:=by
  unfold s_callN_i_t
  split
  · rename_i hn; subst hn
    split
    · exact (side_Table_check_c1_raw k _ _ σ).trans (side_Table_check_c1_is k _ _ σ)
    · rfl
  rfl
noncomputable def s_callV_i_t (k:Nat) (f:Value) (args:List Value) (σ:AMem):Option (Value × AMem):=match f with
  | .func (.func n) first cap=>s_callN_i_t k n (first.toList++args++cap.toList) σ
  | .func (.method nm) first _=>(match first.toList++args with
    | .iface t v::rest=>(methodF P t nm).bind fun n=>s_callN_i_t k n (v::rest) σ
    | _=>none)
  | _=>none
theorem callV_i_t_is (k:Nat) (f:Value) (args:List Value) (σ:AMem):d_callV_i_t k f args σ=s_callV_i_t k f args σ:=by
  simp only[d_callV_i_t,hide_eq]
  unfold callVal s_callV_i_t
  simp only[callN_i_t_is]
  rfl
noncomputable def s_slices_IndexFunc_int_l0 (k n:Nat) (p0:Option Addr) (c1:Nat) (c2:Nat) (v3:Value) (i4:Int) (x8:Int) (σ:AMem):Option LOut:=match n with
  | 0=>none
  | n+1=>(fP p0 fun p0=>fN c1 fun c1=>fN c2 fun c2=>fI i4 fun i4=>fI x8 fun x8=>fL σ fun σ=>bif decide (x8<i4) then (if 0≤x8∧x8<(c1:Nat) then p0.bind fun a1=>(ldI .i64 σ a1.block (a1.off+x8.toNat*1)).bind fun n2=>(s_callV_i_t k v3 [.int .i64 n2] σ).bind fun r3=>(toB r3.1).bind fun b4=>bif b4 then (some (.ret,[.int .i64 x8],r3.2)) else (s_slices_IndexFunc_int_l0 k n p0 c1 c2 v3 i4 (w64 (x8+(1:Int))) r3.2) else none) else (some (.exit 0,[],σ)))
termination_by structural n
theorem slices_IndexFunc_int_l0_is (k n:Nat) (p0:Option Addr) (c1:Nat) (c2:Nat) (v3:Value) (i4:Int) (x8:Int) (σ:AMem):d_slices_IndexFunc_int_l0 k n p0 c1 c2 v3 i4 x8 σ=s_slices_IndexFunc_int_l0 k n p0 c1 c2 v3 i4 x8 σ:=by
  induction n generalizing p0 c1 c2 v3 i4 x8 σ with
  | zero=>simp only[d_slices_IndexFunc_int_l0,hide_eq]; rfl
  | succ n ih=>rw[d_slices_IndexFunc_int_l0_eq,b_slices_IndexFunc_int_l0,s_slices_IndexFunc_int_l0]; simp only[callV_i_t_is,ih,fI_eq,fN_eq,fB_eq,fP_eq,fA_eq,fS_eq,fO_eq,fV_eq,fL_eq,fMem_eq,fMm_eq,fR_eq,allocS_eq,stNS_eq,st1S_eq,setMS_eq]
noncomputable def s_slices_IndexFunc_int (k:Nat) (x0:Option Addr × Nat × Nat) (x1:Value) (σ:AMem):Option (Value × AMem):=match k with
  | 0=>none
  | k+1=>(fS x0 fun x0=>fL σ fun σ=>(s_slices_IndexFunc_int_l0 k k x0.1 x0.2.1 x0.2.2 x1 ((x0.2.1:Nat):Int) (0:Int) σ).bind fun r5=>if r5.1 = .exit 0 then (fI (-1:Int) fun y6=>some (.int .i64 y6,r5.2.2)) else if r5.1 = .ret then (u_i r5.2.1 fun n7=>fI n7 fun y8=>some (.int .i64 y8,r5.2.2)) else none)
theorem slices_IndexFunc_int_is (k:Nat) (x0:Option Addr × Nat × Nat) (x1:Value) (σ:AMem):d_slices_IndexFunc_int k x0 x1 σ=s_slices_IndexFunc_int k x0 x1 σ:=by
  cases k with
  | zero=>simp only[d_slices_IndexFunc_int,hide_eq]; rfl
  | succ k=>rw[d_slices_IndexFunc_int_eq,b_slices_IndexFunc_int,s_slices_IndexFunc_int]; simp only[callV_i_t_is,slices_IndexFunc_int_l0_is,fI_eq,fN_eq,fB_eq,fP_eq,fA_eq,fS_eq,fO_eq,fV_eq,fL_eq,fMem_eq,fMm_eq,fR_eq,allocS_eq,stNS_eq,st1S_eq,setMS_eq]
noncomputable def s_slices_ContainsFunc_int (k:Nat) (x0:Option Addr × Nat × Nat) (x1:Value) (σ:AMem):Option (Value × AMem):=match k with
  | 0=>none
  | k+1=>(fS x0 fun x0=>fL σ fun σ=>(s_slices_IndexFunc_int k (x0.1,x0.2.1,x0.2.2) (x1) σ).bind fun r1=>(toI .i64 r1.1).bind fun n2=>fB (decide (n2≥(0:Int))) fun y3=>some (.bool y3,r1.2))
theorem slices_ContainsFunc_int_is (k:Nat) (x0:Option Addr × Nat × Nat) (x1:Value) (σ:AMem):d_slices_ContainsFunc_int k x0 x1 σ=s_slices_ContainsFunc_int k x0 x1 σ:=by
  cases k with
  | zero=>simp only[d_slices_ContainsFunc_int,hide_eq]; rfl
  | succ k=>rw[d_slices_ContainsFunc_int_eq,b_slices_ContainsFunc_int,s_slices_ContainsFunc_int]; simp only[slices_IndexFunc_int_is,fI_eq,fN_eq,fB_eq,fP_eq,fA_eq,fS_eq,fO_eq,fV_eq,fL_eq,fMem_eq,fMm_eq,fR_eq,allocS_eq,stNS_eq,st1S_eq,setMS_eq]
noncomputable def s_side_Table_check (k:Nat) (x0:Option Addr) (x1:Int) (x2:Option Addr × Nat × Nat) (σ:AMem):Option (Value × AMem):=match k with
  | 0=>none
  | k+1=>(fP x0 fun x0=>fI x1 fun x1=>fS x2 fun x2=>fL σ fun σ=>allocS σ (.cells [.pointer x0] 92 true) fun h1 s2=>(ldP s2 h1 0).bind fun p3=>(s_side_Table_made k p3 s2).bind fun r4=>(toB r4.1).bind fun b5=>bif !b5 then (fI (5:Int) fun y6=>some (.int .i64 y6,r4.2)) else ((ldP r4.2 h1 0).bind fun p7=>(s_side_Table_there k p7 x1 r4.2).bind fun r8=>(toB r8.1).bind fun b9=>(bif !b9 then some (true,r8.2) else (s_slices_ContainsFunc_int k (x2.1,x2.2.1,x2.2.2) (.func (.func 179) #[] #[.pointer (some ⟨h1,0,none⟩)]) r8.2).bind fun r10=>(toB r10.1).bind fun b11=>some (b11,r10.2)).bind fun r12=>bif r12.1 then (fI (1:Int) fun y13=>some (.int .i64 y13,r12.2)) else (fI (0:Int) fun y14=>some (.int .i64 y14,r12.2))))
theorem side_Table_check_is (k:Nat) (x0:Option Addr) (x1:Int) (x2:Option Addr × Nat × Nat) (σ:AMem):d_side_Table_check k x0 x1 x2 σ=s_side_Table_check k x0 x1 x2 σ:=by
  cases k with
  | zero=>simp only[d_side_Table_check,hide_eq]; rfl
  | succ k=>rw[d_side_Table_check_eq,b_side_Table_check,s_side_Table_check]; simp only[side_Table_made_is,side_Table_there_is,slices_ContainsFunc_int_is,fI_eq,fN_eq,fB_eq,fP_eq,fA_eq,fS_eq,fO_eq,fV_eq,fL_eq,fMem_eq,fMm_eq,fR_eq,allocS_eq,stNS_eq,st1S_eq,setMS_eq]
noncomputable def s_side_Table_put (k:Nat) (x0:Option Addr) (x1:Int) (x2:Int) (σ:AMem):Option (Value × AMem):=match k with
  | 0=>none
  | k+1=>(fP x0 fun x0=>fI x1 fun x1=>fI x2 fun x2=>fL σ fun σ=>x0.bind fun a1=>(ldI .i64 σ a1.block (a1.off+1)).bind fun n2=>x0.bind fun a3=>(ldS σ a3.block (a3.off+2)).bind fun l4=>if (64:Int)=0 then none else if 0≤(w64 ((w64 (x1*n2)).tdiv (64:Int)))∧(w64 ((w64 (x1*n2)).tdiv (64:Int)))<(l4.2.1:Nat) then l4.1.bind fun a5=>(ldI .u64 σ a5.block (a5.off+(w64 ((w64 (x1*n2)).tdiv (64:Int))).toNat*1)).bind fun n6=>(s_side_Table_most k x0 σ).bind fun r7=>(toI .i64 r7.1).bind fun n8=>if (64:Int)=0 then none else if ((w64 (x1*n2)).tmod (64:Int))<0 then none else if (64:Int)=0 then none else if ((w64 (x1*n2)).tmod (64:Int))<0 then none else st1S r7.2 a5.block (a5.off+(w64 ((w64 (x1*n2)).tdiv (64:Int))).toNat*1) (.int .u64 (u64 ((BitVec.ofInt 64 (u64 ((BitVec.ofInt 64 n6 &&& ~~~ (BitVec.ofInt 64 (u64 ((u64 (n8))*2 ^ (min ((w64 (x1*n2)).tmod (64:Int)).toNat 64))))).toNat)) ||| BitVec.ofInt 64 (u64 ((u64 (x2))*2 ^ (min ((w64 (x1*n2)).tmod (64:Int)).toNat 64)))).toNat))) fun s9=>some (.tuple #[],s9) else none)
theorem side_Table_put_is (k:Nat) (x0:Option Addr) (x1:Int) (x2:Int) (σ:AMem):d_side_Table_put k x0 x1 x2 σ=s_side_Table_put k x0 x1 x2 σ:=by
  cases k with
  | zero=>simp only[d_side_Table_put,hide_eq]; rfl
  | succ k=>rw[d_side_Table_put_eq,b_side_Table_put,s_side_Table_put]; simp only[side_Table_most_is,fI_eq,fN_eq,fB_eq,fP_eq,fA_eq,fS_eq,fO_eq,fV_eq,fL_eq,fMem_eq,fMm_eq,fR_eq,allocS_eq,stNS_eq,st1S_eq,setMS_eq]
noncomputable def s_side_Table_Set (k:Nat) (x0:Option Addr) (x1:Int) (x2:Int) (σ:AMem):Option (Value × AMem):=match k with
  | 0=>none
  | k+1=>(fP x0 fun x0=>fI x1 fun x1=>fI x2 fun x2=>fL σ fun σ=>allocS σ (.cells [.int .i64 x2] 3 true) fun h1 s2=>(s_side_Table_check k x0 x1 (some ⟨h1,0,none⟩,1,1) s2).bind fun r3=>(toI .i64 r3.1).bind fun n4=>bif n4 != (0:Int) then (fI n4 fun y5=>some (.int .i64 y5,r3.2)) else ((s_side_Table_put k x0 x1 x2 r3.2).bind fun r6=>r_0 r6.1 (fI (0:Int) fun y7=>some (.int .i64 y7,r6.2))))
theorem side_Table_Set_is (k:Nat) (x0:Option Addr) (x1:Int) (x2:Int) (σ:AMem):d_side_Table_Set k x0 x1 x2 σ=s_side_Table_Set k x0 x1 x2 σ:=by
  cases k with
  | zero=>simp only[d_side_Table_Set,hide_eq]; rfl
  | succ k=>rw[d_side_Table_Set_eq,b_side_Table_Set,s_side_Table_Set]; simp only[side_Table_check_is,side_Table_put_is,fI_eq,fN_eq,fB_eq,fP_eq,fA_eq,fS_eq,fO_eq,fV_eq,fL_eq,fMem_eq,fMm_eq,fR_eq,allocS_eq,stNS_eq,st1S_eq,setMS_eq]
noncomputable def s_heap_Heap_Place (k:Nat) (x0:Option Addr) (x1:Int) (x2_0:Int) (x2_1:Int) (x2_2:Int) (σ:AMem):Option (Value × AMem):=match k with
  | 0=>none
  | k+1=>(fP x0 fun x0=>fI x1 fun x1=>fI x2_0 fun x2_0=>fI x2_1 fun x2_1=>fI x2_2 fun x2_2=>fL σ fun σ=>allocS σ (.cells [.int .i64 x2_0,.int .i64 x2_1,.int .i64 x2_2] 33 true) fun h1 s2=>(s_heap_Heap_made k x0 s2).bind fun r3=>(toB r3.1).bind fun b4=>bif !b4 then (fI (0:Int) fun y5=>fI (5:Int) fun y6=>some (.tuple #[.int .i64 y5,.int .i64 y6],r3.2)) else ((ldI .i64 r3.2 h1 0).bind fun n7=>(ldI .i64 r3.2 h1 (0+1)).bind fun n8=>(ldI .i64 r3.2 h1 (0+1+1)).bind fun n9=>(s_heap_Valid k n7 n8 n9 r3.2).bind fun r10=>(toB r10.1).bind fun b11=>bif !b11 then (fI (0:Int) fun y12=>fI (2:Int) fun y13=>some (.tuple #[.int .i64 y12,.int .i64 y13],r10.2)) else ((ldI .i64 r10.2 h1 0).bind fun n14=>(ldI .i64 r10.2 h1 (0+1)).bind fun n15=>(ldI .i64 r10.2 h1 (0+1+1)).bind fun n16=>(s_heap_Words k n14 n15 n16 r10.2).bind fun r17=>(toI .i64 r17.1).bind fun n18=>(s_heap_Heap_fits k x0 x1 n18 (-1:Int) r17.2).bind fun r19=>(toI .i64 r19.1).bind fun n20=>bif n20 != (0:Int) then (fI (0:Int) fun y21=>fI n20 fun y22=>some (.tuple #[.int .i64 y21,.int .i64 y22],r19.2)) else (x0.bind fun a23=>(ldI .i64 r19.2 a23.block (a23.off+6)).bind fun n24=>x0.bind fun a25=>st1S r19.2 a25.block (a25.off+6) (.int .i64 (w64 (n24+(1:Int)))) fun s26=>x0.bind fun a27=>(ldS s26 a27.block (a27.off+1)).bind fun l28=>x0.bind fun a29=>(ldS s26 a29.block (a29.off+1)).bind fun l30=>x0.bind fun a31=>(ldI .i64 s26 a31.block (a31.off+6)).bind fun n32=>(ldI .i64 s26 h1 0).bind fun n33=>(ldI .i64 s26 h1 (0+1)).bind fun n34=>(ldI .i64 s26 h1 (0+1+1)).bind fun n35=>(s_heap_number k n33 n34 n35 s26).bind fun r36=>(toI .i64 r36.1).bind fun n37=>if 0≤x1∧x1<(l28.2.1:Nat) then l28.1.bind fun a38=>st1S r36.2 a38.block (a38.off+x1.toNat*1) (.int .i64 n32) fun s39=>if 0≤(w64 (x1+(1:Int)))∧(w64 (x1+(1:Int)))<(l30.2.1:Nat) then l30.1.bind fun a40=>st1S s39 a40.block (a40.off+(w64 (x1+(1:Int))).toNat*1) (.int .i64 n37) fun s41=>x0.bind fun a42=>(ldP s41 a42.block (a42.off+2)).bind fun p43=>if (2:Int)=0 then none else (s_side_Table_Set k p43 (w64 (x1.tdiv (2:Int))) (1:Int) s41).bind fun r44=>(toI .i64 r44.1).bind fun n45=>x0.bind fun a46=>(ldM r44.2 a46.block (a46.off+4)).bind fun m47=>x0.bind fun a48=>(ldI .i64 r44.2 a48.block (a48.off+6)).bind fun n49=>m47.bind fun h51=>(ldMap r44.2 h51).bind fun es50=>setMS r44.2 h51 (mapSet n49 (.int .i64 x1) es50) fun s52=>x0.bind fun a53=>(ldI .i64 s52 a53.block (a53.off+6)).bind fun n54=>fI n54 fun y55=>fI (0:Int) fun y56=>some (.tuple #[.int .i64 y55,.int .i64 y56],s52) else none else none))))
theorem heap_Heap_Place_is (k:Nat) (x0:Option Addr) (x1:Int) (x2_0:Int) (x2_1:Int) (x2_2:Int) (σ:AMem):d_heap_Heap_Place k x0 x1 x2_0 x2_1 x2_2 σ=s_heap_Heap_Place k x0 x1 x2_0 x2_1 x2_2 σ:=by
  cases k with
  | zero=>simp only[d_heap_Heap_Place,hide_eq]; rfl
  | succ k=>rw[d_heap_Heap_Place_eq,b_heap_Heap_Place,s_heap_Heap_Place]; simp only[heap_Words_is,heap_Valid_is,heap_Heap_made_is,heap_Heap_fits_is,heap_number_is,side_Table_Set_is,fI_eq,fN_eq,fB_eq,fP_eq,fA_eq,fS_eq,fO_eq,fV_eq,fL_eq,fMem_eq,fMm_eq,fR_eq,allocS_eq,stNS_eq,st1S_eq,setMS_eq]
noncomputable def s_side_Table_Next_l0 (k n:Nat) (p0:Option Addr) (i1:Int) (x8:Int) (σ:AMem):Option LOut:=match n with
  | 0=>none
  | n+1=>(fP p0 fun p0=>fI i1 fun i1=>fI x8 fun x8=>fL σ fun σ=>p0.bind fun a5=>(ldI .i64 σ a5.block (a5.off+0)).bind fun n6=>bif decide (x8<n6) then ((s_side_Table_get k p0 x8 σ).bind fun r7=>(toI .i64 r7.1).bind fun n8=>bif n8 == i1 then (some (.ret,[.int .i64 x8,.int .i64 (0:Int)],r7.2)) else (s_side_Table_Next_l0 k n p0 i1 (w64 (x8+(1:Int))) r7.2)) else (some (.exit 0,[],σ)))
termination_by structural n
theorem side_Table_Next_l0_is (k n:Nat) (p0:Option Addr) (i1:Int) (x8:Int) (σ:AMem):d_side_Table_Next_l0 k n p0 i1 x8 σ=s_side_Table_Next_l0 k n p0 i1 x8 σ:=by
  induction n generalizing p0 i1 x8 σ with
  | zero=>simp only[d_side_Table_Next_l0,hide_eq]; rfl
  | succ n ih=>rw[d_side_Table_Next_l0_eq,b_side_Table_Next_l0,s_side_Table_Next_l0]; simp only[side_Table_made_is,side_Table_get_is,ih,fI_eq,fN_eq,fB_eq,fP_eq,fA_eq,fS_eq,fO_eq,fV_eq,fL_eq,fMem_eq,fMm_eq,fR_eq,allocS_eq,stNS_eq,st1S_eq,setMS_eq]
noncomputable def s_side_Table_Next (k:Nat) (x0:Option Addr) (x1:Int) (x2:Int) (σ:AMem):Option (Value × AMem):=match k with
  | 0=>none
  | k+1=>(fP x0 fun x0=>fI x1 fun x1=>fI x2 fun x2=>fL σ fun σ=>(s_side_Table_made k x0 σ).bind fun r1=>(toB r1.1).bind fun b2=>bif !b2 then (fI (0:Int) fun y3=>fI (5:Int) fun y4=>some (.tuple #[.int .i64 y3,.int .i64 y4],r1.2)) else ((s_side_Table_Next_l0 k k x0 x2 (if (0:Int)>x1 then (0:Int) else x1) r1.2).bind fun r9=>if r9.1 = .exit 0 then (fI (0:Int) fun y10=>fI (4:Int) fun y11=>some (.tuple #[.int .i64 y10,.int .i64 y11],r9.2.2)) else if r9.1 = .ret then (u_ii r9.2.1 fun n12 n13=>fI n12 fun y14=>fI n13 fun y15=>some (.tuple #[.int .i64 y14,.int .i64 y15],r9.2.2)) else none))
theorem side_Table_Next_is (k:Nat) (x0:Option Addr) (x1:Int) (x2:Int) (σ:AMem):d_side_Table_Next k x0 x1 x2 σ=s_side_Table_Next k x0 x1 x2 σ:=by
  cases k with
  | zero=>simp only[d_side_Table_Next,hide_eq]; rfl
  | succ k=>rw[d_side_Table_Next_eq,b_side_Table_Next,s_side_Table_Next]; simp only[side_Table_made_is,side_Table_get_is,side_Table_Next_l0_is,fI_eq,fN_eq,fB_eq,fP_eq,fA_eq,fS_eq,fO_eq,fV_eq,fL_eq,fMem_eq,fMm_eq,fR_eq,allocS_eq,stNS_eq,st1S_eq,setMS_eq]
noncomputable def s_heap_Heap_between_l0 (k n:Nat) (p0:Option Addr) (i1:Int) (x7:Option Addr × Nat × Nat) (x8:Int) (x9:Int) (σ:AMem):Option LOut:=match n with
  | 0=>none
  | n+1=>(fP p0 fun p0=>fI i1 fun i1=>fS x7 fun x7=>fI x8 fun x8=>fI x9 fun x9=>fL σ fun σ=>(bif x9 == (0:Int) then some (decide ((w64 ((2:Int)*x8))<i1),σ) else some (false,σ)).bind fun r6=>bif r6.1 then (allocS r6.2 (.cells [.int .i64 (w64 ((2:Int)*x8))] 3 true) fun h7 s8=>(appendD P 3 (x7.1,x7.2.1,x7.2.2) (some ⟨h7,0,none⟩,1,1) s8).bind fun r9=>fR r9 fun r9=>p0.bind fun a10=>(ldP r9.2 a10.block (a10.off+2)).bind fun p11=>(s_side_Table_Next k p11 (w64 (x8+(1:Int))) (1:Int) r9.2).bind fun r12=>r_ii r12.1 fun n13 n14=>s_heap_Heap_between_l0 k n p0 i1 (r9.1.1,r9.1.2.1,r9.1.2.2) n13 n14 r12.2) else (some (.exit 0,[.slice x7.1 x7.2.1 x7.2.2],r6.2)))
termination_by structural n
theorem heap_Heap_between_l0_is (k n:Nat) (p0:Option Addr) (i1:Int) (x7:Option Addr × Nat × Nat) (x8:Int) (x9:Int) (σ:AMem):d_heap_Heap_between_l0 k n p0 i1 x7 x8 x9 σ=s_heap_Heap_between_l0 k n p0 i1 x7 x8 x9 σ:=by
  induction n generalizing p0 i1 x7 x8 x9 σ with
  | zero=>simp only[d_heap_Heap_between_l0,hide_eq]; rfl
  | succ n ih=>rw[d_heap_Heap_between_l0_eq,b_heap_Heap_between_l0,s_heap_Heap_between_l0]; simp only[side_Table_Next_is,ih,fI_eq,fN_eq,fB_eq,fP_eq,fA_eq,fS_eq,fO_eq,fV_eq,fL_eq,fMem_eq,fMm_eq,fR_eq,allocS_eq,stNS_eq,st1S_eq,setMS_eq]
noncomputable def s_heap_Heap_between (k:Nat) (x0:Option Addr) (x1:Int) (x2:Int) (σ:AMem):Option (Value × AMem):=match k with
  | 0=>none
  | k+1=>(fP x0 fun x0=>fI x1 fun x1=>fI x2 fun x2=>fL σ fun σ=>x0.bind fun a1=>(ldP σ a1.block (a1.off+2)).bind fun p2=>if (2:Int)=0 then none else (s_side_Table_Next k p2 (w64 (x1.tdiv (2:Int))) (1:Int) σ).bind fun r3=>r_ii r3.1 fun n4 n5=>(s_heap_Heap_between_l0 k k x0 x2 (none,0,0) n4 n5 r3.2).bind fun r15=>if r15.1 = .exit 0 then (u_l r15.2.1 fun l16=>some (.slice l16.1 l16.2.1 l16.2.2,r15.2.2)) else none)
theorem heap_Heap_between_is (k:Nat) (x0:Option Addr) (x1:Int) (x2:Int) (σ:AMem):d_heap_Heap_between k x0 x1 x2 σ=s_heap_Heap_between k x0 x1 x2 σ:=by
  cases k with
  | zero=>simp only[d_heap_Heap_between,hide_eq]; rfl
  | succ k=>rw[d_heap_Heap_between_eq,b_heap_Heap_between,s_heap_Heap_between]; simp only[side_Table_Next_is,heap_Heap_between_l0_is,fI_eq,fN_eq,fB_eq,fP_eq,fA_eq,fS_eq,fO_eq,fV_eq,fL_eq,fMem_eq,fMm_eq,fR_eq,allocS_eq,stNS_eq,st1S_eq,setMS_eq]
noncomputable def s_heap_Heap_Objects (k:Nat) (x0:Option Addr) (x1:Int) (σ:AMem):Option (Value × AMem):=match k with
  | 0=>none
  | k+1=>(fP x0 fun x0=>fI x1 fun x1=>fL σ fun σ=>(s_heap_Heap_made k x0 σ).bind fun r1=>(toB r1.1).bind fun b2=>(bif !b2 then some (true,r1.2) else some (decide (x1<(0:Int)),r1.2)).bind fun r3=>(bif r3.1 then some (true,r3.2) else x0.bind fun a4=>(ldS r3.2 a4.block (a4.off+0)).bind fun l5=>some (decide (x1≥((l5.2.1:Nat):Int)),r3.2)).bind fun r6=>bif r6.1 then (some (.slice none 0 0,r6.2)) else ((s_heap_Heap_between k x0 (w64 (x1*(64:Int))) (w64 ((w64 (x1+(1:Int)))*(64:Int))) r6.2).bind fun r7=>(toS r7.1).bind fun l8=>some (.slice l8.1 l8.2.1 l8.2.2,r7.2)))
theorem heap_Heap_Objects_is (k:Nat) (x0:Option Addr) (x1:Int) (σ:AMem):d_heap_Heap_Objects k x0 x1 σ=s_heap_Heap_Objects k x0 x1 σ:=by
  cases k with
  | zero=>simp only[d_heap_Heap_Objects,hide_eq]; rfl
  | succ k=>rw[d_heap_Heap_Objects_eq,b_heap_Heap_Objects,s_heap_Heap_Objects]; simp only[heap_Heap_made_is,heap_Heap_between_is,fI_eq,fN_eq,fB_eq,fP_eq,fA_eq,fS_eq,fO_eq,fV_eq,fL_eq,fMem_eq,fMm_eq,fR_eq,allocS_eq,stNS_eq,st1S_eq,setMS_eq]
noncomputable def s_heap_Heap_used (k:Nat) (x0:Option Addr) (x1:Int) (σ:AMem):Option (Value × AMem):=match k with
  | 0=>none
  | k+1=>(fP x0 fun x0=>fI x1 fun x1=>fL σ fun σ=>(s_heap_Heap_there k x0 x1 σ).bind fun r1=>(toB r1.1).bind fun b2=>(bif b2 then x0.bind fun a3=>(ldS r1.2 a3.block (a3.off+0)).bind fun l4=>if 0≤x1∧x1<(l4.2.1:Nat) then l4.1.bind fun a5=>(ldI .i64 r1.2 a5.block (a5.off+x1.toNat*2+0)).bind fun n6=>some (n6 == (1:Int),r1.2) else none else some (false,r1.2)).bind fun r7=>fB r7.1 fun y8=>some (.bool y8,r7.2))
theorem heap_Heap_used_is (k:Nat) (x0:Option Addr) (x1:Int) (σ:AMem):d_heap_Heap_used k x0 x1 σ=s_heap_Heap_used k x0 x1 σ:=by
  cases k with
  | zero=>simp only[d_heap_Heap_used,hide_eq]; rfl
  | succ k=>rw[d_heap_Heap_used_eq,b_heap_Heap_used,s_heap_Heap_used]; simp only[heap_Heap_there_is,fI_eq,fN_eq,fB_eq,fP_eq,fA_eq,fS_eq,fO_eq,fV_eq,fL_eq,fMem_eq,fMm_eq,fR_eq,allocS_eq,stNS_eq,st1S_eq,setMS_eq]
noncomputable def s_heap_Heap_Gaps_c1 (k:Nat) (x0:Int) (c0:Option Addr) (c1:Option Addr) (σ:AMem):Option (Value × AMem):=match k with
  | 0=>none
  | k+1=>(fI x0 fun x0=>fP c0 fun c0=>fP c1 fun c1=>fL σ fun σ=>c0.bind fun a1=>(ldI .i64 σ a1.block a1.off).bind fun n2=>(bif decide (x0>n2) then (c1.bind fun a3=>(ldS σ a3.block a3.off).bind fun l4=>c0.bind fun a5=>(ldI .i64 σ a5.block a5.off).bind fun n6=>c0.bind fun a7=>(ldI .i64 σ a7.block a7.off).bind fun n8=>allocS σ (.cells [.int .i64 n6,.int .i64 (w64 (x0-n8))] 51 true) fun h9 s10=>(appendD P 51 (l4.1,l4.2.1,l4.2.2) (some ⟨h9,0,none⟩,1,1) s10).bind fun r11=>fR r11 fun r11=>c1.bind fun a12=>st1S r11.2 a12.block a12.off (.slice r11.1.1 r11.1.2.1 r11.1.2.2) fun s13=>some (.normal,[],s13)) else (some (.normal,[],σ)):Option LOut).bind fun r14=>if r14.1 = .normal then (some (.tuple #[],r14.2.2)) else none)
theorem heap_Heap_Gaps_c1_is (k:Nat) (x0:Int) (c0:Option Addr) (c1:Option Addr) (σ:AMem):d_heap_Heap_Gaps_c1 k x0 c0 c1 σ=s_heap_Heap_Gaps_c1 k x0 c0 c1 σ:=by
  cases k with
  | zero=>simp only[d_heap_Heap_Gaps_c1,hide_eq]; rfl
  | succ k=>rw[d_heap_Heap_Gaps_c1_eq,b_heap_Heap_Gaps_c1,s_heap_Heap_Gaps_c1]; simp only[fI_eq,fN_eq,fB_eq,fP_eq,fA_eq,fS_eq,fO_eq,fV_eq,fL_eq,fMem_eq,fMm_eq,fR_eq,allocS_eq,stNS_eq,st1S_eq,setMS_eq]
noncomputable def s_heap_Heap_Gaps_l0 (k n:Nat) (p0:Option Addr) (h1:Nat) (h2:Nat) (p3:Option Addr) (c4:Nat) (c5:Nat) (i6:Int) (x21:Int) (σ:AMem):Option LOut:=match n with
  | 0=>none
  | n+1=>(fP p0 fun p0=>fN h1 fun h1=>fN h2 fun h2=>fP p3 fun p3=>fN c4 fun c4=>fN c5 fun c5=>fI i6 fun i6=>fI x21 fun x21=>fL σ fun σ=>bif decide (x21<i6) then (if 0≤x21∧x21<(c4:Nat) then p3.bind fun a10=>(ldI .i64 σ a10.block (a10.off+x21.toNat*1)).bind fun n11=>(s_heap_Heap_Gaps_c1 k n11 (some ⟨h1,0,none⟩) (some ⟨h2,0,none⟩) σ).bind fun r12=>r_0 r12.1 ((s_heap_Heap_size k p0 n11 r12.2).bind fun r13=>(toI .i64 r13.1).bind fun n14=>st1S r13.2 h1 0 (.int .i64 (w64 (n11+n14))) fun s15=>s_heap_Heap_Gaps_l0 k n p0 h1 h2 p3 c4 c5 i6 (w64 (x21+(1:Int))) s15) else none) else (some (.exit 0,[],σ)))
termination_by structural n
theorem heap_Heap_Gaps_l0_is (k n:Nat) (p0:Option Addr) (h1:Nat) (h2:Nat) (p3:Option Addr) (c4:Nat) (c5:Nat) (i6:Int) (x21:Int) (σ:AMem):d_heap_Heap_Gaps_l0 k n p0 h1 h2 p3 c4 c5 i6 x21 σ=s_heap_Heap_Gaps_l0 k n p0 h1 h2 p3 c4 c5 i6 x21 σ:=by
  induction n generalizing p0 h1 h2 p3 c4 c5 i6 x21 σ with
  | zero=>simp only[d_heap_Heap_Gaps_l0,hide_eq]; rfl
  | succ n ih=>rw[d_heap_Heap_Gaps_l0_eq,b_heap_Heap_Gaps_l0,s_heap_Heap_Gaps_l0]; simp only[heap_Heap_Objects_is,heap_Heap_used_is,heap_Heap_size_is,heap_Heap_Gaps_c1_is,ih,fI_eq,fN_eq,fB_eq,fP_eq,fA_eq,fS_eq,fO_eq,fV_eq,fL_eq,fMem_eq,fMm_eq,fR_eq,allocS_eq,stNS_eq,st1S_eq,setMS_eq]
noncomputable def s_heap_Heap_Gaps (k:Nat) (x0:Option Addr) (x1:Int) (σ:AMem):Option (Value × AMem):=match k with
  | 0=>none
  | k+1=>(fP x0 fun x0=>fI x1 fun x1=>fL σ fun σ=>(s_heap_Heap_used k x0 x1 σ).bind fun r1=>(toB r1.1).bind fun b2=>bif !b2 then (some (.slice none 0 0,r1.2)) else (allocS r1.2 (.cells [.slice none 0 0] 46 true) fun h3 s4=>allocS s4 (.cells [.int .i64 (0:Int)] 3 true) fun h5 s6=>st1S s6 h5 0 (.int .i64 (w64 (x1*(64:Int)))) fun s7=>(s_heap_Heap_Objects k x0 x1 s7).bind fun r8=>(toS r8.1).bind fun l9=>(s_heap_Heap_Gaps_l0 k k x0 h5 h3 l9.1 l9.2.1 l9.2.2 ((l9.2.1:Nat):Int) (0:Int) r8.2).bind fun r16=>if r16.1 = .exit 0 then ((s_heap_Heap_Gaps_c1 k (w64 ((w64 (x1+(1:Int)))*(64:Int))) (some ⟨h5,0,none⟩) (some ⟨h3,0,none⟩) r16.2.2).bind fun r17=>r_0 r17.1 ((ldS r17.2 h3 0).bind fun l18=>some (.slice l18.1 l18.2.1 l18.2.2,r17.2))) else none))
theorem heap_Heap_Gaps_is (k:Nat) (x0:Option Addr) (x1:Int) (σ:AMem):d_heap_Heap_Gaps k x0 x1 σ=s_heap_Heap_Gaps k x0 x1 σ:=by
  cases k with
  | zero=>simp only[d_heap_Heap_Gaps,hide_eq]; rfl
  | succ k=>rw[d_heap_Heap_Gaps_eq,b_heap_Heap_Gaps,s_heap_Heap_Gaps]; simp only[heap_Heap_Objects_is,heap_Heap_used_is,heap_Heap_size_is,heap_Heap_Gaps_c1_is,heap_Heap_Gaps_l0_is,fI_eq,fN_eq,fB_eq,fP_eq,fA_eq,fS_eq,fO_eq,fV_eq,fL_eq,fMem_eq,fMm_eq,fR_eq,allocS_eq,stNS_eq,st1S_eq,setMS_eq]
noncomputable def s_heap_Heap_Word (k:Nat) (x0:Option Addr) (x1:Int) (σ:AMem):Option (Value × AMem):=match k with
  | 0=>none
  | k+1=>(fP x0 fun x0=>fI x1 fun x1=>fL σ fun σ=>(s_heap_Heap_made k x0 σ).bind fun r1=>(toB r1.1).bind fun b2=>bif !b2 then (fI (0:Int) fun y3=>fI (5:Int) fun y4=>some (.tuple #[.int .i64 y3,.int .i64 y4],r1.2)) else ((bif decide (x1<(0:Int)) then some (true,r1.2) else x0.bind fun a5=>(ldS r1.2 a5.block (a5.off+1)).bind fun l6=>some (decide (x1≥((l6.2.1:Nat):Int)),r1.2)).bind fun r7=>bif r7.1 then (fI (0:Int) fun y8=>fI (1:Int) fun y9=>some (.tuple #[.int .i64 y8,.int .i64 y9],r7.2)) else (x0.bind fun a10=>(ldS r7.2 a10.block (a10.off+1)).bind fun l11=>if 0≤x1∧x1<(l11.2.1:Nat) then l11.1.bind fun a12=>(ldI .i64 r7.2 a12.block (a12.off+x1.toNat*1)).bind fun n13=>fI n13 fun y14=>fI (0:Int) fun y15=>some (.tuple #[.int .i64 y14,.int .i64 y15],r7.2) else none)))
theorem heap_Heap_Word_is (k:Nat) (x0:Option Addr) (x1:Int) (σ:AMem):d_heap_Heap_Word k x0 x1 σ=s_heap_Heap_Word k x0 x1 σ:=by
  cases k with
  | zero=>simp only[d_heap_Heap_Word,hide_eq]; rfl
  | succ k=>rw[d_heap_Heap_Word_eq,b_heap_Heap_Word,s_heap_Heap_Word]; simp only[heap_Heap_made_is,fI_eq,fN_eq,fB_eq,fP_eq,fA_eq,fS_eq,fO_eq,fV_eq,fL_eq,fMem_eq,fMm_eq,fR_eq,allocS_eq,stNS_eq,st1S_eq,setMS_eq]
noncomputable def s_side_Table_Get (k:Nat) (x0:Option Addr) (x1:Int) (σ:AMem):Option (Value × AMem):=match k with
  | 0=>none
  | k+1=>(fP x0 fun x0=>fI x1 fun x1=>fL σ fun σ=>(s_side_Table_there k x0 x1 σ).bind fun r1=>(toB r1.1).bind fun b2=>bif !b2 then (fI (-1:Int) fun y3=>some (.int .i64 y3,r1.2)) else ((s_side_Table_get k x0 x1 r1.2).bind fun r4=>(toI .i64 r4.1).bind fun n5=>fI n5 fun y6=>some (.int .i64 y6,r4.2)))
theorem side_Table_Get_is (k:Nat) (x0:Option Addr) (x1:Int) (σ:AMem):d_side_Table_Get k x0 x1 σ=s_side_Table_Get k x0 x1 σ:=by
  cases k with
  | zero=>simp only[d_side_Table_Get,hide_eq]; rfl
  | succ k=>rw[d_side_Table_Get_eq,b_side_Table_Get,s_side_Table_Get]; simp only[side_Table_there_is,side_Table_get_is,fI_eq,fN_eq,fB_eq,fP_eq,fA_eq,fS_eq,fO_eq,fV_eq,fL_eq,fMem_eq,fMm_eq,fR_eq,allocS_eq,stNS_eq,st1S_eq,setMS_eq]
noncomputable def s_heap_Heap_Has (k:Nat) (x0:Option Addr) (x1:Int) (σ:AMem):Option (Value × AMem):=match k with
  | 0=>none
  | k+1=>(fP x0 fun x0=>fI x1 fun x1=>fL σ fun σ=>(s_heap_Heap_made k x0 σ).bind fun r1=>(toB r1.1).bind fun b2=>(bif b2 then some (decide (x1≥(0:Int)),r1.2) else some (false,r1.2)).bind fun r3=>(bif r3.1 then if (2:Int)=0 then none else some ((x1.tmod (2:Int)) == (0:Int),r3.2) else some (false,r3.2)).bind fun r4=>(bif r4.1 then x0.bind fun a5=>(ldP r4.2 a5.block (a5.off+2)).bind fun p6=>if (2:Int)=0 then none else (s_side_Table_Get k p6 (w64 (x1.tdiv (2:Int))) r4.2).bind fun r7=>(toI .i64 r7.1).bind fun n8=>some (n8 == (1:Int),r7.2) else some (false,r4.2)).bind fun r9=>fB r9.1 fun y10=>some (.bool y10,r9.2))
theorem heap_Heap_Has_is (k:Nat) (x0:Option Addr) (x1:Int) (σ:AMem):d_heap_Heap_Has k x0 x1 σ=s_heap_Heap_Has k x0 x1 σ:=by
  cases k with
  | zero=>simp only[d_heap_Heap_Has,hide_eq]; rfl
  | succ k=>rw[d_heap_Heap_Has_eq,b_heap_Heap_Has,s_heap_Heap_Has]; simp only[heap_Heap_made_is,side_Table_Get_is,fI_eq,fN_eq,fB_eq,fP_eq,fA_eq,fS_eq,fO_eq,fV_eq,fL_eq,fMem_eq,fMm_eq,fR_eq,allocS_eq,stNS_eq,st1S_eq,setMS_eq]
noncomputable def s_heap_Heap_object (k:Nat) (x0:Option Addr) (x1:Int) (σ:AMem):Option (Value × AMem):=match k with
  | 0=>none
  | k+1=>(fP x0 fun x0=>fI x1 fun x1=>fL σ fun σ=>(s_heap_Heap_made k x0 σ).bind fun r1=>(toB r1.1).bind fun b2=>bif !b2 then (fI (5:Int) fun y3=>some (.int .i64 y3,r1.2)) else ((s_heap_Heap_Has k x0 x1 r1.2).bind fun r4=>(toB r4.1).bind fun b5=>bif !b5 then (fI (4:Int) fun y6=>some (.int .i64 y6,r4.2)) else (fI (0:Int) fun y7=>some (.int .i64 y7,r4.2))))
theorem heap_Heap_object_is (k:Nat) (x0:Option Addr) (x1:Int) (σ:AMem):d_heap_Heap_object k x0 x1 σ=s_heap_Heap_object k x0 x1 σ:=by
  cases k with
  | zero=>simp only[d_heap_Heap_object,hide_eq]; rfl
  | succ k=>rw[d_heap_Heap_object_eq,b_heap_Heap_object,s_heap_Heap_object]; simp only[heap_Heap_made_is,heap_Heap_Has_is,fI_eq,fN_eq,fB_eq,fP_eq,fA_eq,fS_eq,fO_eq,fV_eq,fL_eq,fMem_eq,fMm_eq,fR_eq,allocS_eq,stNS_eq,st1S_eq,setMS_eq]
noncomputable def s_heap_Heap_wipe (k:Nat) (x0:Option Addr) (x1:Int) (x2:Int) (σ:AMem):Option (Value × AMem):=match k with
  | 0=>none
  | k+1=>(fP x0 fun x0=>fI x1 fun x1=>fI x2 fun x2=>fL σ fun σ=>x0.bind fun a1=>(ldS σ a1.block (a1.off+1)).bind fun l2=>(sliceD 3 1 (l2.1,l2.2.1,l2.2.2) (some (.int .i64 x1)) (some (.int .i64 (w64 (x1+x2)))) none σ).bind fun l3=>(if l3.2.1=0 then some σ else l3.1.bind fun a5=>stN σ a5.block a5.off (rep l3.2.1 [.int .i64 (0:Int)])).bind fun s4=>fMm s4 fun s4=>some (.tuple #[],s4))
theorem heap_Heap_wipe_is (k:Nat) (x0:Option Addr) (x1:Int) (x2:Int) (σ:AMem):d_heap_Heap_wipe k x0 x1 x2 σ=s_heap_Heap_wipe k x0 x1 x2 σ:=by
  cases k with
  | zero=>simp only[d_heap_Heap_wipe,hide_eq]; rfl
  | succ k=>rw[d_heap_Heap_wipe_eq,b_heap_Heap_wipe,s_heap_Heap_wipe]; simp only[fI_eq,fN_eq,fB_eq,fP_eq,fA_eq,fS_eq,fO_eq,fV_eq,fL_eq,fMem_eq,fMm_eq,fR_eq,allocS_eq,stNS_eq,st1S_eq,setMS_eq]
noncomputable def s_heap_Heap_Move (k:Nat) (x0:Option Addr) (x1:Int) (x2:Int) (σ:AMem):Option (Value × AMem):=match k with
  | 0=>none
  | k+1=>(fP x0 fun x0=>fI x1 fun x1=>fI x2 fun x2=>fL σ fun σ=>(s_heap_Heap_object k x0 x1 σ).bind fun r1=>(toI .i64 r1.1).bind fun n2=>bif n2 != (0:Int) then (fI n2 fun y3=>some (.int .i64 y3,r1.2)) else ((s_heap_Heap_size k x0 x1 r1.2).bind fun r4=>(toI .i64 r4.1).bind fun n5=>(s_heap_Heap_fits k x0 x2 n5 x1 r4.2).bind fun r6=>(toI .i64 r6.1).bind fun n7=>bif n7 != (0:Int) then (fI n7 fun y8=>some (.int .i64 y8,r6.2)) else (x0.bind fun a9=>(ldP r6.2 a9.block (a9.off+3)).bind fun p10=>if (2:Int)=0 then none else (s_side_Table_Get k p10 (w64 (x1.tdiv (2:Int))) r6.2).bind fun r11=>(toI .i64 r11.1).bind fun n12=>if 0≤n5∧n5≤n5∧n5*(8:Nat)≤2 ^ 40∧n5≤2 ^ 40 then allocS r11.2 (.cells (rep n5.toNat [.int .i64 (0:Int)]) 3 true) fun h13 s14=>x0.bind fun a15=>(ldS s14 a15.block (a15.off+1)).bind fun l16=>(sliceD 3 1 (l16.1,l16.2.1,l16.2.2) (some (.int .i64 x1)) (some (.int .i64 (w64 (x1+n5)))) none s14).bind fun l17=>(firstA s14 1 l17.1 (Nat.min l17.2.1 n5.toNat)).bind fun w18=>(stO s14 (some ⟨h13,0,none⟩) w18).bind fun s19=>fMm s19 fun s19=>x0.bind fun a20=>(ldP s19 a20.block (a20.off+2)).bind fun p21=>if (2:Int)=0 then none else (s_side_Table_Set k p21 (w64 (x1.tdiv (2:Int))) (0:Int) s19).bind fun r22=>(toI .i64 r22.1).bind fun n23=>x0.bind fun a24=>(ldP r22.2 a24.block (a24.off+3)).bind fun p25=>if (2:Int)=0 then none else (s_side_Table_Set k p25 (w64 (x1.tdiv (2:Int))) (0:Int) r22.2).bind fun r26=>(toI .i64 r26.1).bind fun n27=>(s_heap_Heap_wipe k x0 x1 n5 r26.2).bind fun r28=>r_0 r28.1 (x0.bind fun a29=>(ldS r28.2 a29.block (a29.off+1)).bind fun l30=>(sliceD 3 1 (l30.1,l30.2.1,l30.2.2) (some (.int .i64 x2)) none none r28.2).bind fun l31=>(firstA r28.2 1 (some ⟨h13,0,none⟩) (Nat.min n5.toNat l31.2.1)).bind fun w32=>(stO r28.2 l31.1 w32).bind fun s33=>fMm s33 fun s33=>x0.bind fun a34=>(ldP s33 a34.block (a34.off+2)).bind fun p35=>if (2:Int)=0 then none else (s_side_Table_Set k p35 (w64 (x2.tdiv (2:Int))) (1:Int) s33).bind fun r36=>(toI .i64 r36.1).bind fun n37=>x0.bind fun a38=>(ldP r36.2 a38.block (a38.off+3)).bind fun p39=>if (2:Int)=0 then none else (s_side_Table_Set k p39 (w64 (x2.tdiv (2:Int))) n12 r36.2).bind fun r40=>(toI .i64 r40.1).bind fun n41=>x0.bind fun a42=>(ldM r40.2 a42.block (a42.off+4)).bind fun m43=>if 0≤(0:Int)∧(0:Int)<(n5.toNat:Nat) then (ldI .i64 r40.2 h13 (0+(0:Int).toNat*1)).bind fun n44=>m43.bind fun h46=>(ldMap r40.2 h46).bind fun es45=>setMS r40.2 h46 (mapSet n44 (.int .i64 x2) es45) fun s47=>x0.bind fun a48=>(ldM s47 a48.block (a48.off+5)).bind fun m49=>m49.bind fun h51=>(ldMap s47 h51).bind fun es50=>setMS s47 h51 (mapSet x1 (.int .i64 x2) es50) fun s52=>fI (0:Int) fun y53=>some (.int .i64 y53,s52) else none) else none)))
theorem heap_Heap_Move_is (k:Nat) (x0:Option Addr) (x1:Int) (x2:Int) (σ:AMem):d_heap_Heap_Move k x0 x1 x2 σ=s_heap_Heap_Move k x0 x1 x2 σ:=by
  cases k with
  | zero=>simp only[d_heap_Heap_Move,hide_eq]; rfl
  | succ k=>rw[d_heap_Heap_Move_eq,b_heap_Heap_Move,s_heap_Heap_Move]; simp only[heap_Heap_object_is,heap_Heap_size_is,heap_Heap_fits_is,side_Table_Set_is,side_Table_Get_is,heap_Heap_wipe_is,fI_eq,fN_eq,fB_eq,fP_eq,fA_eq,fS_eq,fO_eq,fV_eq,fL_eq,fMem_eq,fMm_eq,fR_eq,allocS_eq,stNS_eq,st1S_eq,setMS_eq]
noncomputable def s_heap_Heap_Forward (k:Nat) (x0:Option Addr) (x1:Int) (σ:AMem):Option (Value × AMem):=match k with
  | 0=>none
  | k+1=>(fP x0 fun x0=>fI x1 fun x1=>fL σ fun σ=>(s_heap_Heap_made k x0 σ).bind fun r1=>(toB r1.1).bind fun b2=>bif !b2 then (fI (0:Int) fun y3=>fI (5:Int) fun y4=>some (.tuple #[.int .i64 y3,.int .i64 y4],r1.2)) else (x0.bind fun a5=>(ldM r1.2 a5.block (a5.off+5)).bind fun m6=>(ldMO r1.2 m6).bind fun es7=>(toI .i64 ((mapGet es7 x1).getD (.int .i64 (0:Int)))).bind fun n8=>bif !((mapGet es7 x1).isSome) then (fI (0:Int) fun y9=>fI (4:Int) fun y10=>some (.tuple #[.int .i64 y9,.int .i64 y10],r1.2)) else (fI n8 fun y11=>fI (0:Int) fun y12=>some (.tuple #[.int .i64 y11,.int .i64 y12],r1.2))))
theorem heap_Heap_Forward_is (k:Nat) (x0:Option Addr) (x1:Int) (σ:AMem):d_heap_Heap_Forward k x0 x1 σ=s_heap_Heap_Forward k x0 x1 σ:=by
  cases k with
  | zero=>simp only[d_heap_Heap_Forward,hide_eq]; rfl
  | succ k=>rw[d_heap_Heap_Forward_eq,b_heap_Heap_Forward,s_heap_Heap_Forward]; simp only[heap_Heap_made_is,fI_eq,fN_eq,fB_eq,fP_eq,fA_eq,fS_eq,fO_eq,fV_eq,fL_eq,fMem_eq,fMm_eq,fR_eq,allocS_eq,stNS_eq,st1S_eq,setMS_eq]
noncomputable def s_heap_Heap_At (k:Nat) (x0:Option Addr) (x1:Int) (σ:AMem):Option (Value × AMem):=match k with
  | 0=>none
  | k+1=>(fP x0 fun x0=>fI x1 fun x1=>fL σ fun σ=>(s_heap_Heap_made k x0 σ).bind fun r1=>(toB r1.1).bind fun b2=>bif !b2 then (fI (0:Int) fun y3=>fI (5:Int) fun y4=>some (.tuple #[.int .i64 y3,.int .i64 y4],r1.2)) else (x0.bind fun a5=>(ldM r1.2 a5.block (a5.off+4)).bind fun m6=>(ldMO r1.2 m6).bind fun es7=>(toI .i64 ((mapGet es7 x1).getD (.int .i64 (0:Int)))).bind fun n8=>bif !((mapGet es7 x1).isSome) then (fI (0:Int) fun y9=>fI (4:Int) fun y10=>some (.tuple #[.int .i64 y9,.int .i64 y10],r1.2)) else (fI n8 fun y11=>fI (0:Int) fun y12=>some (.tuple #[.int .i64 y11,.int .i64 y12],r1.2))))
theorem heap_Heap_At_is (k:Nat) (x0:Option Addr) (x1:Int) (σ:AMem):d_heap_Heap_At k x0 x1 σ=s_heap_Heap_At k x0 x1 σ:=by
  cases k with
  | zero=>simp only[d_heap_Heap_At,hide_eq]; rfl
  | succ k=>rw[d_heap_Heap_At_eq,b_heap_Heap_At,s_heap_Heap_At]; simp only[heap_Heap_made_is,fI_eq,fN_eq,fB_eq,fP_eq,fA_eq,fS_eq,fO_eq,fV_eq,fL_eq,fMem_eq,fMm_eq,fR_eq,allocS_eq,stNS_eq,st1S_eq,setMS_eq]
noncomputable def s_heap_Heap_ClaimLarge (k:Nat) (x0:Option Addr) (x1:Int) (x2:Int) (x3:Int) (σ:AMem):Option (Value × AMem):=match k with
  | 0=>none
  | k+1=>(fP x0 fun x0=>fI x1 fun x1=>fI x2 fun x2=>fI x3 fun x3=>fL σ fun σ=>(s_heap_Heap_claim k x0 x1 x2 (2:Int) x3 (3:Int) x3 σ).bind fun r1=>(toI .i64 r1.1).bind fun n2=>fI n2 fun y3=>some (.int .i64 y3,r1.2))
theorem heap_Heap_ClaimLarge_is (k:Nat) (x0:Option Addr) (x1:Int) (x2:Int) (x3:Int) (σ:AMem):d_heap_Heap_ClaimLarge k x0 x1 x2 x3 σ=s_heap_Heap_ClaimLarge k x0 x1 x2 x3 σ:=by
  cases k with
  | zero=>simp only[d_heap_Heap_ClaimLarge,hide_eq]; rfl
  | succ k=>rw[d_heap_Heap_ClaimLarge_eq,b_heap_Heap_ClaimLarge,s_heap_Heap_ClaimLarge]; simp only[heap_Heap_claim_is,fI_eq,fN_eq,fB_eq,fP_eq,fA_eq,fS_eq,fO_eq,fV_eq,fL_eq,fMem_eq,fMm_eq,fR_eq,allocS_eq,stNS_eq,st1S_eq,setMS_eq]
noncomputable def s_heap_Heap_Kill (k:Nat) (x0:Option Addr) (x1:Int) (σ:AMem):Option (Value × AMem):=match k with
  | 0=>none
  | k+1=>(fP x0 fun x0=>fI x1 fun x1=>fL σ fun σ=>(s_heap_Heap_object k x0 x1 σ).bind fun r1=>(toI .i64 r1.1).bind fun n2=>bif n2 != (0:Int) then (fI n2 fun y3=>some (.int .i64 y3,r1.2)) else (x0.bind fun a4=>(ldM r1.2 a4.block (a4.off+4)).bind fun m5=>x0.bind fun a6=>(ldS r1.2 a6.block (a6.off+1)).bind fun l7=>if 0≤x1∧x1<(l7.2.1:Nat) then l7.1.bind fun a8=>(ldI .i64 r1.2 a8.block (a8.off+x1.toNat*1)).bind fun n9=>(ldMO r1.2 m5).bind fun es10=>fMm (stMO r1.2 m5 (mapDel n9 es10)) fun s11=>x0.bind fun a12=>(ldP s11 a12.block (a12.off+2)).bind fun p13=>if (2:Int)=0 then none else (s_side_Table_Set k p13 (w64 (x1.tdiv (2:Int))) (0:Int) s11).bind fun r14=>(toI .i64 r14.1).bind fun n15=>x0.bind fun a16=>(ldP r14.2 a16.block (a16.off+3)).bind fun p17=>if (2:Int)=0 then none else (s_side_Table_Set k p17 (w64 (x1.tdiv (2:Int))) (0:Int) r14.2).bind fun r18=>(toI .i64 r18.1).bind fun n19=>(s_heap_Heap_size k x0 x1 r18.2).bind fun r20=>(toI .i64 r20.1).bind fun n21=>(s_heap_Heap_wipe k x0 x1 n21 r20.2).bind fun r22=>r_0 r22.1 (fI (0:Int) fun y23=>some (.int .i64 y23,r22.2)) else none))
theorem heap_Heap_Kill_is (k:Nat) (x0:Option Addr) (x1:Int) (σ:AMem):d_heap_Heap_Kill k x0 x1 σ=s_heap_Heap_Kill k x0 x1 σ:=by
  cases k with
  | zero=>simp only[d_heap_Heap_Kill,hide_eq]; rfl
  | succ k=>rw[d_heap_Heap_Kill_eq,b_heap_Heap_Kill,s_heap_Heap_Kill]; simp only[heap_Heap_object_is,heap_Heap_size_is,side_Table_Set_is,heap_Heap_wipe_is,fI_eq,fN_eq,fB_eq,fP_eq,fA_eq,fS_eq,fO_eq,fV_eq,fL_eq,fMem_eq,fMm_eq,fR_eq,allocS_eq,stNS_eq,st1S_eq,setMS_eq]
noncomputable def s_heap_Heap_held (k:Nat) (x0:Option Addr) (x1:Int) (x2:Bool) (σ:AMem):Option (Value × AMem):=match k with
  | 0=>none
  | k+1=>(fP x0 fun x0=>fI x1 fun x1=>fB x2 fun x2=>fL σ fun σ=>(s_heap_Heap_made k x0 σ).bind fun r1=>(toB r1.1).bind fun b2=>bif !b2 then (fI (5:Int) fun y3=>some (.int .i64 y3,r1.2)) else ((s_heap_Heap_there k x0 x1 r1.2).bind fun r4=>(toB r4.1).bind fun b5=>(bif !b5 then some (true,r4.2) else some (!x2,r4.2)).bind fun r6=>bif r6.1 then (fI (1:Int) fun y7=>some (.int .i64 y7,r6.2)) else (x0.bind fun a8=>(ldS r6.2 a8.block (a8.off+0)).bind fun l9=>if 0≤x1∧x1<(l9.2.1:Nat) then l9.1.bind fun a10=>(ldI .i64 r6.2 a10.block (a10.off+x1.toNat*2+0)).bind fun n11=>(bif n11 != (1:Int) then x0.bind fun a12=>(ldS r6.2 a12.block (a12.off+0)).bind fun l13=>if 0≤x1∧x1<(l13.2.1:Nat) then l13.1.bind fun a14=>(ldI .i64 r6.2 a14.block (a14.off+x1.toNat*2+0)).bind fun n15=>some (n15 != (2:Int),r6.2) else none else some (false,r6.2)).bind fun r16=>bif r16.1 then (fI (5:Int) fun y17=>some (.int .i64 y17,r16.2)) else (fI (0:Int) fun y18=>some (.int .i64 y18,r16.2)) else none)))
theorem heap_Heap_held_is (k:Nat) (x0:Option Addr) (x1:Int) (x2:Bool) (σ:AMem):d_heap_Heap_held k x0 x1 x2 σ=s_heap_Heap_held k x0 x1 x2 σ:=by
  cases k with
  | zero=>simp only[d_heap_Heap_held,hide_eq]; rfl
  | succ k=>rw[d_heap_Heap_held_eq,b_heap_Heap_held,s_heap_Heap_held]; simp only[heap_Heap_made_is,heap_Heap_there_is,fI_eq,fN_eq,fB_eq,fP_eq,fA_eq,fS_eq,fO_eq,fV_eq,fL_eq,fMem_eq,fMm_eq,fR_eq,allocS_eq,stNS_eq,st1S_eq,setMS_eq]
noncomputable def s_heap_Heap_Release_l0 (k n:Nat) (p0:Option Addr) (i1:Int) (x6:Int) (σ:AMem):Option LOut:=match n with
  | 0=>none
  | n+1=>(fP p0 fun p0=>fI i1 fun i1=>fI x6 fun x6=>fL σ fun σ=>bif decide (x6>(0:Int)) then (p0.bind fun a9=>(ldS σ a9.block (a9.off+0)).bind fun l10=>if 0≤(w64 ((w64 (i1+x6))-(1:Int)))∧(w64 ((w64 (i1+x6))-(1:Int)))<(l10.2.1:Nat) then l10.1.bind fun a11=>stNS σ a11.block (a11.off+(w64 ((w64 (i1+x6))-(1:Int))).toNat*2) [.int .i64 (0:Int),.int .i64 (0:Int)] fun s12=>s_heap_Heap_Release_l0 k n p0 i1 (w64 (x6-(1:Int))) s12 else none) else (some (.exit 0,[],σ)))
termination_by structural n
theorem heap_Heap_Release_l0_is (k n:Nat) (p0:Option Addr) (i1:Int) (x6:Int) (σ:AMem):d_heap_Heap_Release_l0 k n p0 i1 x6 σ=s_heap_Heap_Release_l0 k n p0 i1 x6 σ:=by
  induction n generalizing p0 i1 x6 σ with
  | zero=>simp only[d_heap_Heap_Release_l0,hide_eq]; rfl
  | succ n ih=>rw[d_heap_Heap_Release_l0_eq,b_heap_Heap_Release_l0,s_heap_Heap_Release_l0]; simp only[heap_Heap_Objects_is,heap_Heap_held_is,heap_Heap_span_is,ih,fI_eq,fN_eq,fB_eq,fP_eq,fA_eq,fS_eq,fO_eq,fV_eq,fL_eq,fMem_eq,fMm_eq,fR_eq,allocS_eq,stNS_eq,st1S_eq,setMS_eq]
noncomputable def s_heap_Heap_Release (k:Nat) (x0:Option Addr) (x1:Int) (σ:AMem):Option (Value × AMem):=match k with
  | 0=>none
  | k+1=>(fP x0 fun x0=>fI x1 fun x1=>fL σ fun σ=>(s_heap_Heap_held k x0 x1 true σ).bind fun r1=>(toI .i64 r1.1).bind fun n2=>bif n2 != (0:Int) then (fI n2 fun y3=>some (.int .i64 y3,r1.2)) else ((s_heap_Heap_Objects k x0 x1 r1.2).bind fun r4=>(toS r4.1).bind fun l5=>bif decide (((l5.2.1:Nat):Int)>(0:Int)) then (fI (8:Int) fun y6=>some (.int .i64 y6,r4.2)) else ((s_heap_Heap_span k x0 x1 r4.2).bind fun r7=>(toI .i64 r7.1).bind fun n8=>(s_heap_Heap_Release_l0 k k x0 x1 n8 r7.2).bind fun r13=>if r13.1 = .exit 0 then (fI (0:Int) fun y14=>some (.int .i64 y14,r13.2.2)) else none)))
theorem heap_Heap_Release_is (k:Nat) (x0:Option Addr) (x1:Int) (σ:AMem):d_heap_Heap_Release k x0 x1 σ=s_heap_Heap_Release k x0 x1 σ:=by
  cases k with
  | zero=>simp only[d_heap_Heap_Release,hide_eq]; rfl
  | succ k=>rw[d_heap_Heap_Release_eq,b_heap_Heap_Release,s_heap_Heap_Release]; simp only[heap_Heap_Objects_is,heap_Heap_held_is,heap_Heap_span_is,heap_Heap_Release_l0_is,fI_eq,fN_eq,fB_eq,fP_eq,fA_eq,fS_eq,fO_eq,fV_eq,fL_eq,fMem_eq,fMm_eq,fR_eq,allocS_eq,stNS_eq,st1S_eq,setMS_eq]
noncomputable def s_ref01_SameRuns_l0 (k n:Nat) (p0:Option Addr) (c1:Nat) (c2:Nat) (p3:Option Addr) (c4:Nat) (c5:Nat) (x5:Int) (σ:AMem):Option LOut:=match n with
  | 0=>none
  | n+1=>(fP p0 fun p0=>fN c1 fun c1=>fN c2 fun c2=>fP p3 fun p3=>fN c4 fun c4=>fN c5 fun c5=>fI x5 fun x5=>fL σ fun σ=>bif decide (x5<((c1:Nat):Int)) then (if 0≤x5∧x5<(c1:Nat) then p0.bind fun a2=>(ldI .i64 σ a2.block (a2.off+x5.toNat*2)).bind fun n3=>(ldI .i64 σ a2.block (a2.off+x5.toNat*2+1)).bind fun n4=>if 0≤x5∧x5<(c4:Nat) then p3.bind fun a5=>(ldI .i64 σ a5.block (a5.off+x5.toNat*2)).bind fun n6=>(ldI .i64 σ a5.block (a5.off+x5.toNat*2+1)).bind fun n7=>(eqA P 51 (.agg #[.int .i64 n3,.int .i64 n4]) (.agg #[.int .i64 n6,.int .i64 n7])).bind fun e8=>bif !e8 then (some (.ret,[.bool false],σ)) else (s_ref01_SameRuns_l0 k n p0 c1 c2 p3 c4 c5 (w64 (x5+(1:Int))) σ) else none else none) else (some (.exit 0,[],σ)))
termination_by structural n
theorem ref01_SameRuns_l0_is (k n:Nat) (p0:Option Addr) (c1:Nat) (c2:Nat) (p3:Option Addr) (c4:Nat) (c5:Nat) (x5:Int) (σ:AMem):d_ref01_SameRuns_l0 k n p0 c1 c2 p3 c4 c5 x5 σ=s_ref01_SameRuns_l0 k n p0 c1 c2 p3 c4 c5 x5 σ:=by
  induction n generalizing p0 c1 c2 p3 c4 c5 x5 σ with
  | zero=>simp only[d_ref01_SameRuns_l0,hide_eq]; rfl
  | succ n ih=>rw[d_ref01_SameRuns_l0_eq,b_ref01_SameRuns_l0,s_ref01_SameRuns_l0]; simp only[ih,fI_eq,fN_eq,fB_eq,fP_eq,fA_eq,fS_eq,fO_eq,fV_eq,fL_eq,fMem_eq,fMm_eq,fR_eq,allocS_eq,stNS_eq,st1S_eq,setMS_eq]
noncomputable def s_ref01_SameRuns (k:Nat) (x0:Option Addr × Nat × Nat) (x1:Option Addr × Nat × Nat) (σ:AMem):Option (Value × AMem):=match k with
  | 0=>none
  | k+1=>(fS x0 fun x0=>fS x1 fun x1=>fL σ fun σ=>bif ((x0.2.1:Nat):Int) != ((x1.2.1:Nat):Int) then (fB false fun y1=>some (.bool y1,σ)) else ((s_ref01_SameRuns_l0 k k x0.1 x0.2.1 x0.2.2 x1.1 x1.2.1 x1.2.2 (0:Int) σ).bind fun r9=>if r9.1 = .exit 0 then (fB true fun y10=>some (.bool y10,r9.2.2)) else if r9.1 = .ret then (u_t r9.2.1 fun b11=>fB b11 fun y12=>some (.bool y12,r9.2.2)) else none))
theorem ref01_SameRuns_is (k:Nat) (x0:Option Addr × Nat × Nat) (x1:Option Addr × Nat × Nat) (σ:AMem):d_ref01_SameRuns k x0 x1 σ=s_ref01_SameRuns k x0 x1 σ:=by
  cases k with
  | zero=>simp only[d_ref01_SameRuns,hide_eq]; rfl
  | succ k=>rw[d_ref01_SameRuns_eq,b_ref01_SameRuns,s_ref01_SameRuns]; simp only[ref01_SameRuns_l0_is,fI_eq,fN_eq,fB_eq,fP_eq,fA_eq,fS_eq,fO_eq,fV_eq,fL_eq,fMem_eq,fMm_eq,fR_eq,allocS_eq,stNS_eq,st1S_eq,setMS_eq]
noncomputable def s_law02_alive (k:Nat)  (σ:AMem):Option (Value × AMem):=match k with
  | 0=>none
  | k+1=>(fL σ fun σ=>(s_heap_New k (4:Int) σ).bind fun r1=>r_pi r1.1 fun p2 n3=>(eqA P 25 (.pointer p2) (.pointer none)).bind fun e4=>(bif e4 then some (true,r1.2) else some (n3 != (0:Int),r1.2)).bind fun r5=>bif r5.1 then (fB false fun y6=>some (.bool y6,r5.2)) else ((s_heap_Heap_Claim k p2 (1:Int) (0:Int) r5.2).bind fun r7=>(toI .i64 r7.1).bind fun n8=>(s_heap_Heap_Place k p2 (64:Int) (1:Int) (2:Int) (0:Int) r7.2).bind fun r9=>r_ii r9.1 fun n10 n11=>(s_heap_Heap_Gaps k p2 (1:Int) r9.2).bind fun r12=>(toS r12.1).bind fun l13=>(s_heap_Heap_Word k p2 (65:Int) r12.2).bind fun r14=>r_ii r14.1 fun n15 n16=>(s_heap_Heap_Place k p2 (70:Int) (0:Int) (0:Int) (0:Int) r14.2).bind fun r17=>r_ii r17.1 fun n18 n19=>(s_heap_Heap_Move k p2 (70:Int) (100:Int) r17.2).bind fun r20=>(toI .i64 r20.1).bind fun n21=>(s_heap_Heap_Forward k p2 (70:Int) r20.2).bind fun r22=>r_ii r22.1 fun n23 n24=>(s_heap_Heap_At k p2 (2:Int) r22.2).bind fun r25=>r_ii r25.1 fun n26 n27=>(s_heap_Heap_Move k p2 (64:Int) (66:Int) r25.2).bind fun r28=>(toI .i64 r28.1).bind fun n29=>(s_heap_Heap_ClaimLarge k p2 (2:Int) (2:Int) (1:Int) r28.2).bind fun r30=>(toI .i64 r30.1).bind fun n31=>(s_heap_Heap_Place k p2 (128:Int) (0:Int) (100:Int) (0:Int) r30.2).bind fun r32=>r_ii r32.1 fun n33 n34=>(s_heap_Heap_Kill k p2 (128:Int) r32.2).bind fun r35=>(toI .i64 r35.1).bind fun n36=>(s_heap_Heap_Release k p2 (3:Int) r35.2).bind fun r37=>(toI .i64 r37.1).bind fun n38=>(s_heap_Heap_Release k p2 (2:Int) r37.2).bind fun r39=>(toI .i64 r39.1).bind fun n40=>(bif n8 != (0:Int) then some (true,r39.2) else some (n10 != (1:Int),r39.2)).bind fun r41=>(bif r41.1 then some (true,r41.2) else some (n11 != (0:Int),r41.2)).bind fun r42=>(bif r42.1 then some (true,r42.2) else allocS r42.2 (.cells [.int .i64 (70:Int),.int .i64 (58:Int)] 51 true) fun h43 s44=>(s_ref01_SameRuns k (l13.1,l13.2.1,l13.2.2) (some ⟨h43,0,none⟩,1,1) s44).bind fun r45=>(toB r45.1).bind fun b46=>some (!b46,r45.2)).bind fun r47=>(bif r47.1 then some (true,r47.2) else some (n15 != (33:Int),r47.2)).bind fun r48=>(bif r48.1 then some (true,r48.2) else some (n16 != (0:Int),r48.2)).bind fun r49=>(bif r49.1 then some (true,r49.2) else some (n18 != (2:Int),r49.2)).bind fun r50=>(bif r50.1 then some (true,r50.2) else some (n19 != (0:Int),r50.2)).bind fun r51=>(bif r51.1 then some (true,r51.2) else some (n21 != (0:Int),r51.2)).bind fun r52=>(bif r52.1 then some (true,r52.2) else some (n23 != (100:Int),r52.2)).bind fun r53=>(bif r53.1 then some (true,r53.2) else some (n24 != (0:Int),r53.2)).bind fun r54=>(bif r54.1 then some (true,r54.2) else some (n26 != (100:Int),r54.2)).bind fun r55=>(bif r55.1 then some (true,r55.2) else some (n27 != (0:Int),r55.2)).bind fun r56=>(bif r56.1 then some (true,r56.2) else some (n29 != (0:Int),r56.2)).bind fun r57=>bif r57.1 then (fB false fun y58=>some (.bool y58,r57.2)) else ((bif n31 == (0:Int) then some (n33 == (3:Int),r57.2) else some (false,r57.2)).bind fun r59=>(bif r59.1 then some (n34 == (0:Int),r59.2) else some (false,r59.2)).bind fun r60=>(bif r60.1 then some (n36 == (0:Int),r60.2) else some (false,r60.2)).bind fun r61=>(bif r61.1 then some (n38 == (5:Int),r61.2) else some (false,r61.2)).bind fun r62=>(bif r62.1 then some (n40 == (0:Int),r62.2) else some (false,r62.2)).bind fun r63=>(bif r63.1 then (s_heap_Heap_Gaps k p2 (1:Int) r63.2).bind fun r64=>(toS r64.1).bind fun l65=>allocS r64.2 (.cells [.int .i64 (64:Int),.int .i64 (2:Int),.int .i64 (72:Int),.int .i64 (28:Int),.int .i64 (102:Int),.int .i64 (26:Int)] 51 true) fun h66 s67=>(s_ref01_SameRuns k (l65.1,l65.2.1,l65.2.2) (some ⟨h66,0,none⟩,3,3) s67).bind fun r68=>(toB r68.1).bind fun b69=>some (b69,r68.2) else some (false,r63.2)).bind fun r70=>fB r70.1 fun y71=>some (.bool y71,r70.2))))
theorem law02_alive_is (k:Nat)  (σ:AMem):d_law02_alive k  σ=s_law02_alive k  σ:=by
  cases k with
  | zero=>simp only[d_law02_alive,hide_eq]; rfl
  | succ k=>rw[d_law02_alive_run_eq,b_law02_alive,s_law02_alive]; simp only[heap_New_is,heap_Heap_Claim_is,heap_Heap_Place_is,heap_Heap_Gaps_is,heap_Heap_Word_is,heap_Heap_Move_is,heap_Heap_Forward_is,heap_Heap_At_is,heap_Heap_ClaimLarge_is,heap_Heap_Kill_is,heap_Heap_Release_is,ref01_SameRuns_is,fI_eq,fN_eq,fB_eq,fP_eq,fA_eq,fS_eq,fO_eq,fV_eq,fL_eq,fMem_eq,fMm_eq,fR_eq,allocS_eq,stNS_eq,st1S_eq,setMS_eq]
end Go.Proofs.YtlaplcglpnlieaaGreat
