/-
 PRINTED BY A PROGRAM OF THIS SESSION'S OWN (gen2.py): the functions that the examples reach, as definitions.
-/
import Derived.Test.YtlaplcglpnlieaaGreatP6
import Derived.Test.YtlaplcglpnlieaaGreatP10
set_option maxRecDepth 100000
set_option linter.unusedVariables false
set_option linter.unusedSimpArgs false
set_option linter.unusedSectionVars false
namespace Go.Proofs.YtlaplcglpnlieaaGreat
open Go Go.AX
local instance yw:Kn:=⟨false⟩
variable [Bb]
noncomputable def Io (k n:Nat) (p0:Option Addr) (c1:Nat) (c2:Nat) (i3:Int) (i4:Int) (x8:Int) (σ:Aa):Option Ax:=match n with
 | 0=>none
 | n+1=>(fP p0 fun p0=>fN c1 fun c1=>fN c2 fun c2=>fI i3 fun i3=>fI i4 fun i4=>fI x8 fun x8=>fL σ fun σ=>bif decide (x8<i4) then (if 0≤x8∧x8<(c1:Nat) then p0.bind fun a1=>(Ak .i64 σ a1.block (a1.off+x8.toNat*1)).bind fun n2=>bif i3 == n2 then (some (.ret,[.int .i64 x8],σ)) else (Io k n p0 c1 c2 i3 i4 (Ae (x8+(1:Int))) σ) else none) else (some (.exit 0,[],σ)))
termination_by structural n
theorem VE (k n:Nat) (p0:Option Addr) (c1:Nat) (c2:Nat) (i3:Int) (i4:Int) (x8:Int) (σ:Aa):Er k n p0 c1 c2 i3 i4 x8 σ=Io k n p0 c1 c2 i3 i4 x8 σ:=by
 induction n generalizing p0 c1 c2 i3 i4 x8 σ with
 | zero=>simp only[Er,Ab]; rfl
 | succ n ih=>rw[Nd,Lg,Io]; simp only[ih,Bj,Bd,Bm,Bk,Bl,Bo,Bn,Bi,Bp,As,AG,Bq,Al,Aw,Av,Ap]
noncomputable def NF (k:Nat) (x0:Option Addr × Nat × Nat) (x1:Int) (σ:Aa):Option (Value × Aa):=match k with
 | 0=>none
 | k+1=>(fS x0 fun x0=>fI x1 fun x1=>fL σ fun σ=>(Io k k x0.1 x0.2.1 x0.2.2 x1 ((x0.2.1:Nat):Int) (0:Int) σ).bind fun r3=>if r3.1 = .exit 0 then (fI (-1:Int) fun y4=>some (.int .i64 y4,r3.2.2)) else if r3.1 = .ret then (UM r3.2.1 fun n5=>fI n5 fun y6=>some (.int .i64 y6,r3.2.2)) else none)
theorem Y0 (k:Nat) (x0:Option Addr × Nat × Nat) (x1:Int) (σ:Aa):GM k x0 x1 σ=NF k x0 x1 σ:=by
 cases k with
 | zero=>simp only[GM,Ab]; rfl
 | succ k=>rw[Pm,Nz,NF]; simp only[VE,Bj,Bd,Bm,Bk,Bl,Bo,Bn,Bi,Bp,As,AG,Bq,Al,Aw,Av,Ap]
noncomputable def Ll (k:Nat) (x0:Option Addr × Nat × Nat) (x1:Int) (σ:Aa):Option (Value × Aa):=match k with
 | 0=>none
 | k+1=>(fS x0 fun x0=>fI x1 fun x1=>fL σ fun σ=>(NF k (x0.1,x0.2.1,x0.2.2) x1 σ).bind fun r1=>(Bu .i64 r1.1).bind fun n2=>fB (decide (n2≥(0:Int))) fun y3=>some (.bool y3,r1.2))
theorem VD (k:Nat) (x0:Option Addr × Nat × Nat) (x1:Int) (σ:Aa):EX k x0 x1 σ=Ll k x0 x1 σ:=by
 cases k with
 | zero=>simp only[EX,Ab]; rfl
 | succ k=>rw[Nc,Lf,Ll]; simp only[Y0,Bj,Bd,Bm,Bk,Bl,Bo,Bn,Bi,Bp,As,AG,Bq,Al,Aw,Av,Ap]
noncomputable def V8 (k:Nat) (x0:Int) (x1:Int) (σ:Aa):Option (Value × Aa):=match k with
 | 0=>none
 | k+1=>(fI x0 fun x0=>fI x1 fun x1=>fL σ fun σ=>(bif decide (x0<(1:Int)) then some (true,σ) else some (decide (x0>(4096:Int)),σ)).bind fun r1=>(bif r1.1 then some (true,r1.2) else CV r1.2 (.cells [.int .i64 (1:Int),.int .i64 (2:Int),.int .i64 (4:Int),.int .i64 (8:Int)] 3 true) fun h2 s3=>(Ll k (some ⟨h2,0,none⟩,4,4) x1 s3).bind fun r4=>(CT r4.1).bind fun b5=>some (!b5,r4.2)).bind fun r6=>bif r6.1 then (fI (1:Int) fun y7=>some (.tuple #[.pointer none,.int .i64 y7],r6.2)) else (if (64:Int)=0 then none else if 0≤(Ae ((Ae ((Ae ((Ae (x0*x1))+(64:Int)))-(1:Int))).tdiv (64:Int)))∧(Ae ((Ae ((Ae ((Ae (x0*x1))+(64:Int)))-(1:Int))).tdiv (64:Int)))≤(Ae ((Ae ((Ae ((Ae (x0*x1))+(64:Int)))-(1:Int))).tdiv (64:Int)))∧(Ae ((Ae ((Ae ((Ae (x0*x1))+(64:Int)))-(1:Int))).tdiv (64:Int)))*(8:Nat)≤2 ^ 40∧(Ae ((Ae ((Ae ((Ae (x0*x1))+(64:Int)))-(1:Int))).tdiv (64:Int)))≤2 ^ 40 then CV r6.2 (.cells (rep (Ae ((Ae ((Ae ((Ae (x0*x1))+(64:Int)))-(1:Int))).tdiv (64:Int))).toNat [.int .u64 (0:Int)]) 138 true) fun h8 s9=>CV s9 (.cells [.int .i64 x0,.int .i64 x1,.slice (some ⟨h8,0,none⟩) ((Ae ((Ae ((Ae ((Ae (x0*x1))+(64:Int)))-(1:Int))).tdiv (64:Int))).toNat) ((Ae ((Ae ((Ae ((Ae (x0*x1))+(64:Int)))-(1:Int))).tdiv (64:Int))).toNat)] 136 true) fun h10 s11=>fI (0:Int) fun y12=>some (.tuple #[.pointer (some ⟨h10,0,none⟩),.int .i64 y12],s11) else none))
theorem mQ (k:Nat) (x0:Int) (x1:Int) (σ:Aa):N0 k x0 x1 σ=V8 k x0 x1 σ:=by
 cases k with
 | zero=>simp only[N0,Ab]; rfl
 | succ k=>rw[YG,YZ,V8]; simp only[VD,Bj,Bd,Bm,Bk,Bl,Bo,Bn,Bi,Bp,As,AG,Bq,Al,Aw,Av,Ap]
noncomputable def V5 (k:Nat) (x0:Int) (σ:Aa):Option (Value × Aa):=match k with
 | 0=>none
 | k+1=>(fI x0 fun x0=>fL σ fun σ=>(bif decide (x0<(2:Int)) then some (true,σ) else some (decide (x0>(64:Int)),σ)).bind fun r1=>bif r1.1 then (fI (1:Int) fun y2=>some (.tuple #[.pointer none,.int .i64 y2],r1.2)) else (if 0≤x0∧x0≤x0∧x0*(16:Nat)≤2 ^ 40∧x0≤2 ^ 40 then CV r1.2 (.cells (rep x0.toNat [.int .i64 (0:Int),.int .i64 (0:Int)]) 104 true) fun h3 s4=>if 0≤(Ae (x0*(64:Int)))∧(Ae (x0*(64:Int)))≤(Ae (x0*(64:Int)))∧(Ae (x0*(64:Int)))*(8:Nat)≤2 ^ 40∧(Ae (x0*(64:Int)))≤2 ^ 40 then CV s4 (.cells (rep (Ae (x0*(64:Int))).toNat [.int .i64 (0:Int)]) 3 true) fun h5 s6=>CV s6 (.map []) fun h7 s8=>CV s8 (.map []) fun h9 s10=>CV s10 (.cells [.slice (some ⟨h3,0,none⟩) x0.toNat x0.toNat,.slice (some ⟨h5,0,none⟩) ((Ae (x0*(64:Int))).toNat) ((Ae (x0*(64:Int))).toNat),.pointer none,.pointer none,.map (some h7),.map (some h9),.int .i64 (0:Int)] 94 true) fun h11 s12=>(Cr s12 h11 (0+1)).bind fun l13=>if (2:Int)=0 then none else (V8 k (Ae (((l13.2.1:Nat):Int).tdiv (2:Int))) (1:Int) s12).bind fun r14=>Wx r14.1 fun p15 n16=>Y1 r14.2 h11 (0+2) (.pointer p15) fun s17=>(Cr s17 h11 (0+1)).bind fun l18=>if (2:Int)=0 then none else (V8 k (Ae (((l18.2.1:Nat):Int).tdiv (2:Int))) (1:Int) s17).bind fun r19=>Wx r19.1 fun p20 n21=>Y1 r19.2 h11 (0+3) (.pointer p20) fun s22=>fI (0:Int) fun y23=>some (.tuple #[.pointer (some ⟨h11,0,none⟩),.int .i64 y23],s22) else none else none))
theorem lU (k:Nat) (x0:Int) (σ:Aa):Hv k x0 σ=V5 k x0 σ:=by
 cases k with
 | zero=>simp only[Hv,Ab]; rfl
 | succ k=>rw[TI,UZ,V5]; simp only[mQ,Bj,Bd,Bm,Bk,Bl,Bo,Bn,Bi,Bp,As,AG,Bq,Al,Aw,Av,Ap]
noncomputable def OV (k:Nat) (x0_0:Int) (x0_1:Int) (x0_2:Int) (σ:Aa):Option (Value × Aa):=match k with
 | 0=>none
 | k+1=>(fI x0_0 fun x0_0=>fI x0_1 fun x0_1=>fI x0_2 fun x0_2=>fL σ fun σ=>CV σ (.cells [.int .i64 x0_0,.int .i64 x0_1,.int .i64 x0_2] 33 true) fun h1 s2=>(Ak .i64 s2 h1 (0+0)).bind fun n3=>(bif decide (n3≥(0:Int)) then (Ak .i64 s2 h1 (0+0)).bind fun n4=>some (decide (n4≤(15:Int)),s2) else some (false,s2)).bind fun r5=>(bif r5.1 then (Ak .i64 r5.2 h1 (0+1)).bind fun n6=>some (decide (n6≥(0:Int)),r5.2) else some (false,r5.2)).bind fun r7=>(bif r7.1 then (Ak .i64 r7.2 h1 (0+1)).bind fun n8=>some (decide (n8≤(200:Int)),r7.2) else some (false,r7.2)).bind fun r9=>(bif r9.1 then (Ak .i64 r9.2 h1 (0+2)).bind fun n10=>some (decide (n10≥(0:Int)),r9.2) else some (false,r9.2)).bind fun r11=>(bif r11.1 then (Ak .i64 r11.2 h1 (0+2)).bind fun n12=>some (decide (n12≤(3:Int)),r11.2) else some (false,r11.2)).bind fun r13=>(bif r13.1 then (Ak .i64 r13.2 h1 (0+2)).bind fun n14=>(bif n14 != (1:Int) then some (true,r13.2) else (Ak .i64 r13.2 h1 (0+0)).bind fun n15=>some (decide (n15≥(1:Int)),r13.2)).bind fun r16=>some (r16.1,r16.2) else some (false,r13.2)).bind fun r17=>(bif r17.1 then (Ak .i64 r17.2 h1 (0+2)).bind fun n18=>(bif n18 != (2:Int) then some (true,r17.2) else (Ak .i64 r17.2 h1 (0+0)).bind fun n19=>some (decide (n19≥(2:Int)),r17.2)).bind fun r20=>some (r20.1,r20.2) else some (false,r17.2)).bind fun r21=>fB r21.1 fun y22=>some (.bool y22,r21.2))
theorem TL (k:Nat) (x0_0:Int) (x0_1:Int) (x0_2:Int) (σ:Aa):FR k x0_0 x0_1 x0_2 σ=OV k x0_0 x0_1 x0_2 σ:=by
 cases k with
 | zero=>simp only[FR,Ab]; rfl
 | succ k=>rw[VS,Va,OV]; simp only[Bj,Bd,Bm,Bk,Bl,Bo,Bn,Bi,Bp,As,AG,Bq,Al,Aw,Av,Ap]
noncomputable def OW (k:Nat) (x0_0:Int) (x0_1:Int) (x0_2:Int) (σ:Aa):Option (Value × Aa):=match k with
 | 0=>none
 | k+1=>(fI x0_0 fun x0_0=>fI x0_1 fun x0_1=>fI x0_2 fun x0_2=>fL σ fun σ=>CV σ (.cells [.int .i64 x0_0,.int .i64 x0_1,.int .i64 x0_2] 33 true) fun h1 s2=>(Ak .i64 s2 h1 0).bind fun n3=>(Ak .i64 s2 h1 (0+1)).bind fun n4=>(Ak .i64 s2 h1 (0+1+1)).bind fun n5=>(OV k n3 n4 n5 s2).bind fun r6=>(CT r6.1).bind fun b7=>bif !b7 then (fI (0:Int) fun y8=>some (.int .i64 y8,r6.2)) else ((Ak .i64 r6.2 h1 (0+0)).bind fun n9=>(Ak .i64 r6.2 h1 (0+1)).bind fun n10=>if (2:Int)=0 then none else fI (Ae ((Ae ((Ae ((Ae ((Ae ((2:Int)+n9))+n10))+(1:Int))).tdiv (2:Int)))*(2:Int))) fun y11=>some (.int .i64 y11,r6.2)))
theorem TN (k:Nat) (x0_0:Int) (x0_1:Int) (x0_2:Int) (σ:Aa):FT k x0_0 x0_1 x0_2 σ=OW k x0_0 x0_1 x0_2 σ:=by
 cases k with
 | zero=>simp only[FT,Ab]; rfl
 | succ k=>rw[VT,Vb,OW]; simp only[TL,Bj,Bd,Bm,Bk,Bl,Bo,Bn,Bi,Bp,As,AG,Bq,Al,Aw,Av,Ap]
noncomputable def Eh (k:Nat) (x0:Option Addr) (σ:Aa):Option (Value × Aa):=match k with
 | 0=>none
 | k+1=>(fP x0 fun x0=>fL σ fun σ=>(PX P 25 (.pointer x0) (.pointer none)).bind fun e1=>(bif !e1 then x0.bind fun a2=>(Cr σ a2.block (a2.off+0)).bind fun l3=>some (decide (((l3.2.1:Nat):Int)>(0:Int)),σ) else some (false,σ)).bind fun r4=>fB r4.1 fun y5=>some (.bool y5,r4.2))
theorem Ex (k:Nat) (x0:Option Addr) (σ:Aa):Ar k x0 σ=Eh k x0 σ:=by
 cases k with
 | zero=>simp only[Ar,Ab]; rfl
 | succ k=>rw[MC,Mf,Eh]; simp only[Bj,Bd,Bm,Bk,Bl,Bo,Bn,Bi,Bp,As,AG,Bq,Al,Aw,Av,Ap]
noncomputable def EA (k:Nat) (x0:Option Addr) (σ:Aa):Option (Value × Aa):=match k with
 | 0=>none
 | k+1=>(fP x0 fun x0=>fL σ fun σ=>(Eh k x0 σ).bind fun r1=>(CT r1.1).bind fun b2=>bif !b2 then (fI (0:Int) fun y3=>some (.int .i64 y3,r1.2)) else (x0.bind fun a4=>(Cr r1.2 a4.block (a4.off+0)).bind fun l5=>fI ((l5.2.1:Nat):Int) fun y6=>some (.int .i64 y6,r1.2)))
theorem Du (k:Nat) (x0:Option Addr) (σ:Aa):AF k x0 σ=EA k x0 σ:=by
 cases k with
 | zero=>simp only[AF,Ab]; rfl
 | succ k=>rw[Lh,Kt,EA]; simp only[Ex,Bj,Bd,Bm,Bk,Bl,Bo,Bn,Bi,Bp,As,AG,Bq,Al,Aw,Av,Ap]
noncomputable def Lu (k:Nat) (x0:Option Addr) (x1:Int) (σ:Aa):Option (Value × Aa):=match k with
 | 0=>none
 | k+1=>(fP x0 fun x0=>fI x1 fun x1=>fL σ fun σ=>(bif decide (x1<(0:Int)) then some (true,σ) else (EA k x0 σ).bind fun r1=>(Bu .i64 r1.1).bind fun n2=>some (decide (x1≥n2),r1.2)).bind fun r3=>bif r3.1 then (fI (-1:Int) fun y4=>some (.int .i64 y4,r3.2)) else (x0.bind fun a5=>(Cr r3.2 a5.block (a5.off+0)).bind fun l6=>if 0≤x1∧x1<(l6.2.1:Nat) then l6.1.bind fun a7=>(Ak .i64 r3.2 a7.block (a7.off+x1.toNat*2+1)).bind fun n8=>fI n8 fun y9=>some (.int .i64 y9,r3.2) else none))
theorem N3 (k:Nat) (x0:Option Addr) (x1:Int) (σ:Aa):B5 k x0 x1 σ=Lu k x0 x1 σ:=by
 cases k with
 | zero=>simp only[B5,Ab]; rfl
 | succ k=>rw[IM,IG,Lu]; simp only[Du,Bj,Bd,Bm,Bk,Bl,Bo,Bn,Bi,Bp,As,AG,Bq,Al,Aw,Av,Ap]
noncomputable def J9 (k n:Nat) (p0:Option Addr) (i1:Int) (x5:Int) (σ:Aa):Option Ax:=match n with
 | 0=>none
 | n+1=>(fP p0 fun p0=>fI i1 fun i1=>fI x5 fun x5=>fL σ fun σ=>p0.bind fun a1=>(Cr σ a1.block (a1.off+0)).bind fun l2=>if 0≤i1∧i1<(l2.2.1:Nat) then l2.1.bind fun a3=>(Ak .i64 σ a3.block (a3.off+i1.toNat*2+0)).bind fun n4=>(bif n4 == (2:Int) then p0.bind fun a5=>(Cr σ a5.block (a5.off+0)).bind fun l6=>some (decide ((Ae (i1+x5))<((l6.2.1:Nat):Int)),σ) else some (false,σ)).bind fun r7=>(bif r7.1 then p0.bind fun a8=>(Cr r7.2 a8.block (a8.off+0)).bind fun l9=>if 0≤(Ae (i1+x5))∧(Ae (i1+x5))<(l9.2.1:Nat) then l9.1.bind fun a10=>(Ak .i64 r7.2 a10.block (a10.off+(Ae (i1+x5)).toNat*2+0)).bind fun n11=>some (n11 == (3:Int),r7.2) else none else some (false,r7.2)).bind fun r12=>bif r12.1 then (J9 k n p0 i1 (Ae (x5+(1:Int))) r12.2) else (some (.exit 0,[.int .i64 x5],r12.2)) else none)
termination_by structural n
theorem Xt (k n:Nat) (p0:Option Addr) (i1:Int) (x5:Int) (σ:Aa):Ei k n p0 i1 x5 σ=J9 k n p0 i1 x5 σ:=by
 induction n generalizing p0 i1 x5 σ with
 | zero=>simp only[Ei,Ab]; rfl
 | succ n ih=>rw[K7,J1,J9]; simp only[ih,Bj,Bd,Bm,Bk,Bl,Bo,Bn,Bi,Bp,As,AG,Bq,Al,Aw,Av,Ap]
noncomputable def PM (k:Nat) (x0:Option Addr) (x1:Int) (σ:Aa):Option (Value × Aa):=match k with
 | 0=>none
 | k+1=>(fP x0 fun x0=>fI x1 fun x1=>fL σ fun σ=>(J9 k k x0 x1 (1:Int) σ).bind fun r13=>if r13.1 = .exit 0 then (UM r13.2.1 fun n14=>fI n14 fun y15=>some (.int .i64 y15,r13.2.2)) else none)
theorem Ty (k:Nat) (x0:Option Addr) (x1:Int) (σ:Aa):Dy k x0 x1 σ=PM k x0 x1 σ:=by
 cases k with
 | zero=>simp only[Dy,Ab]; rfl
 | succ k=>rw[QW,P1,PM]; simp only[Xt,Bj,Bd,Bm,Bk,Bl,Bo,Bn,Bi,Bp,As,AG,Bq,Al,Aw,Av,Ap]
noncomputable def V6 (k:Nat) (x0:Int) (σ:Aa):Option (Value × Aa):=match k with
 | 0=>none
 | k+1=>(fI x0 fun x0=>fL σ fun σ=>CV σ (.cells [.int .i64 (0:Int),.int .i64 (0:Int),.int .i64 (0:Int)] 33 true) fun h1 s2=>if (16:Int)=0 then none else if (4096:Int)=0 then none else if (16:Int)=0 then none else if (4096:Int)=0 then none else VH s2 h1 0 [.int .i64 (x0.tmod (16:Int)),.int .i64 (Ae ((x0.tmod (4096:Int)).tdiv (16:Int))),.int .i64 (Ae (x0.tdiv (4096:Int)))] fun s3=>(((R5 s3 h1 0 3).bind fun v4=>some (.agg v4.toArray)).bind fun v5=>some [v5]).bind fun vs6=>some (LV vs6,s3))
theorem ij (k:Nat) (x0:Int) (σ:Aa):FU k x0 σ=V6 k x0 σ:=by
 cases k with
 | zero=>simp only[FU,Ab]; rfl
 | succ k=>rw[VU,Vc,V6]; simp only[Bj,Bd,Bm,Bk,Bl,Bo,Bn,Bi,Bp,As,AG,Bq,Al,Aw,Av,Ap]
noncomputable def HS (k:Nat) (x0:Option Addr) (x1:Int) (σ:Aa):Option (Value × Aa):=match k with
 | 0=>none
 | k+1=>(fP x0 fun x0=>fI x1 fun x1=>fL σ fun σ=>x0.bind fun a1=>(Cr σ a1.block (a1.off+1)).bind fun l2=>if 0≤(Ae (x1+(1:Int)))∧(Ae (x1+(1:Int)))<(l2.2.1:Nat) then l2.1.bind fun a3=>(Ak .i64 σ a3.block (a3.off+(Ae (x1+(1:Int))).toNat*1)).bind fun n4=>(V6 k n4 σ).bind fun r5=>cy r5.1 fun n6 n7 n8=>(OW k n6 n7 n8 r5.2).bind fun r9=>(Bu .i64 r9.1).bind fun n10=>fI n10 fun y11=>some (.int .i64 y11,r9.2) else none)
theorem Gb (k:Nat) (x0:Option Addr) (x1:Int) (σ:Aa):BL k x0 x1 σ=HS k x0 x1 σ:=by
 cases k with
 | zero=>simp only[BL,Ab]; rfl
 | succ k=>rw[QV,P0,HS]; simp only[TN,ij,Bj,Bd,Bm,Bk,Bl,Bo,Bn,Bi,Bp,As,AG,Bq,Al,Aw,Av,Ap]
noncomputable def Hn (k:Nat) (x0:Option Addr) (σ:Aa):Option (Value × Aa):=match k with
 | 0=>none
 | k+1=>(fP x0 fun x0=>fL σ fun σ=>(PX P 92 (.pointer x0) (.pointer none)).bind fun e1=>(bif !e1 then x0.bind fun a2=>(Ak .i64 σ a2.block (a2.off+0)).bind fun n3=>some (decide (n3>(0:Int)),σ) else some (false,σ)).bind fun r4=>fB r4.1 fun y5=>some (.bool y5,r4.2))
theorem GP (k:Nat) (x0:Option Addr) (σ:Aa):BJ k x0 σ=Hn k x0 σ:=by
 cases k with
 | zero=>simp only[BJ,Ab]; rfl
 | succ k=>rw[Qu,O6,Hn]; simp only[Bj,Bd,Bm,Bk,Bl,Bo,Bn,Bi,Bp,As,AG,Bq,Al,Aw,Av,Ap]
noncomputable def Jh (k:Nat) (x0:Option Addr) (σ:Aa):Option (Value × Aa):=match k with
 | 0=>none
 | k+1=>(fP x0 fun x0=>fL σ fun σ=>x0.bind fun a1=>(Ak .i64 σ a1.block (a1.off+1)).bind fun n2=>if n2<0 then none else fI (Ae ((Ae ((1:Int)*2 ^ (min n2.toNat 64)))-(1:Int))) fun y3=>some (.int .i64 y3,σ))
theorem NG (k:Nat) (x0:Option Addr) (σ:Aa):Dc k x0 σ=Jh k x0 σ:=by
 cases k with
 | zero=>simp only[Dc,Ab]; rfl
 | succ k=>rw[Qv,O7,Jh]; simp only[Bj,Bd,Bm,Bk,Bl,Bo,Bn,Bi,Bp,As,AG,Bq,Al,Aw,Av,Ap]
noncomputable def Kb (k:Nat) (x0:Option Addr) (x1:Int) (σ:Aa):Option (Value × Aa):=match k with
 | 0=>none
 | k+1=>(fP x0 fun x0=>fI x1 fun x1=>fL σ fun σ=>x0.bind fun a1=>(Ak .i64 σ a1.block (a1.off+1)).bind fun n2=>x0.bind fun a3=>(Cr σ a3.block (a3.off+2)).bind fun l4=>if (64:Int)=0 then none else if 0≤(Ae ((Ae (x1*n2)).tdiv (64:Int)))∧(Ae ((Ae (x1*n2)).tdiv (64:Int)))<(l4.2.1:Nat) then l4.1.bind fun a5=>(Ak .u64 σ a5.block (a5.off+(Ae ((Ae (x1*n2)).tdiv (64:Int))).toNat*1)).bind fun n6=>if (64:Int)=0 then none else if ((Ae (x1*n2)).tmod (64:Int))<0 then none else (Jh k x0 σ).bind fun r7=>(Bu .i64 r7.1).bind fun n8=>fI (Ae ((BitVec.ofInt 64 (Ae (n6.fdiv (2 ^ (min ((Ae (x1*n2)).tmod (64:Int)).toNat 64)))) &&& BitVec.ofInt 64 n8).toNat)) fun y9=>some (.int .i64 y9,r7.2) else none)
theorem Ji (k:Nat) (x0:Option Addr) (x1:Int) (σ:Aa):D0 k x0 x1 σ=Kb k x0 x1 σ:=by
 cases k with
 | zero=>simp only[D0,Ab]; rfl
 | succ k=>rw[Re,P9,Kb]; simp only[NG,Bj,Bd,Bm,Bk,Bl,Bo,Bn,Bi,Bp,As,AG,Bq,Al,Aw,Av,Ap]
noncomputable def Jf (k n:Nat) (p0:Option Addr) (i1:Int) (x8:Int) (σ:Aa):Option Ax:=match n with
 | 0=>none
 | n+1=>(fP p0 fun p0=>fI i1 fun i1=>fI x8 fun x8=>fL σ fun σ=>bif decide (x8≥(0:Int)) then ((Kb k p0 x8 σ).bind fun r7=>(Bu .i64 r7.1).bind fun n8=>bif n8 == i1 then (some (.ret,[.int .i64 x8,.int .i64 (0:Int)],r7.2)) else (Jf k n p0 i1 (Ae (x8-(1:Int))) r7.2)) else (some (.exit 0,[],σ)))
termination_by structural n
theorem Wy (k n:Nat) (p0:Option Addr) (i1:Int) (x8:Int) (σ:Aa):DB k n p0 i1 x8 σ=Jf k n p0 i1 x8 σ:=by
 induction n generalizing p0 i1 x8 σ with
 | zero=>simp only[DB,Ab]; rfl
 | succ n ih=>rw[JV,II,Jf]; simp only[GP,Ji,ih,Bj,Bd,Bm,Bk,Bl,Bo,Bn,Bi,Bp,As,AG,Bq,Al,Aw,Av,Ap]
noncomputable def OX (k:Nat) (x0:Option Addr) (x1:Int) (x2:Int) (σ:Aa):Option (Value × Aa):=match k with
 | 0=>none
 | k+1=>(fP x0 fun x0=>fI x1 fun x1=>fI x2 fun x2=>fL σ fun σ=>(Hn k x0 σ).bind fun r1=>(CT r1.1).bind fun b2=>bif !b2 then (fI (0:Int) fun y3=>fI (5:Int) fun y4=>some (.tuple #[.int .i64 y3,.int .i64 y4],r1.2)) else (x0.bind fun a5=>(Ak .i64 r1.2 a5.block (a5.off+0)).bind fun n6=>(Jf k k x0 x2 (Ae ((if n6<(if (0:Int)>x1 then (0:Int) else x1) then n6 else (if (0:Int)>x1 then (0:Int) else x1))-(1:Int))) r1.2).bind fun r9=>if r9.1 = .exit 0 then (fI (0:Int) fun y10=>fI (4:Int) fun y11=>some (.tuple #[.int .i64 y10,.int .i64 y11],r9.2.2)) else if r9.1 = .ret then (SP r9.2.1 fun n12 n13=>fI n12 fun y14=>fI n13 fun y15=>some (.tuple #[.int .i64 y14,.int .i64 y15],r9.2.2)) else none))
theorem Zy (k:Nat) (x0:Option Addr) (x1:Int) (x2:Int) (σ:Aa):Ga k x0 x1 x2 σ=OX k x0 x1 x2 σ:=by
 cases k with
 | zero=>simp only[Ga,Ab]; rfl
 | succ k=>rw[Qs,O4,OX]; simp only[GP,Ji,Wy,Bj,Bd,Bm,Bk,Bl,Bo,Bn,Bi,Bp,As,AG,Bq,Al,Aw,Av,Ap]
noncomputable def PI (k:Nat) (x0:Option Addr) (x1:Int) (σ:Aa):Option (Value × Aa):=match k with
 | 0=>none
 | k+1=>(fP x0 fun x0=>fI x1 fun x1=>fL σ fun σ=>(Eh k x0 σ).bind fun r1=>(CT r1.1).bind fun b2=>bif !b2 then (fI (0:Int) fun y3=>fI (5:Int) fun y4=>some (.tuple #[.int .i64 y3,.int .i64 y4],r1.2)) else ((bif decide (x1<(0:Int)) then some (true,r1.2) else x0.bind fun a5=>(Cr r1.2 a5.block (a5.off+1)).bind fun l6=>some (decide (x1≥((l6.2.1:Nat):Int)),r1.2)).bind fun r7=>bif r7.1 then (fI (0:Int) fun y8=>fI (4:Int) fun y9=>some (.tuple #[.int .i64 y8,.int .i64 y9],r7.2)) else (x0.bind fun a10=>(J4 r7.2 a10.block (a10.off+2)).bind fun p11=>if (2:Int)=0 then none else (OX k p11 (Ae ((Ae (x1.tdiv (2:Int)))+(1:Int))) (1:Int) r7.2).bind fun r12=>EL r12.1 fun n13 n14=>(bif n14 != (0:Int) then some (true,r12.2) else (HS k x0 (Ae ((2:Int)*n13)) r12.2).bind fun r15=>(Bu .i64 r15.1).bind fun n16=>some (decide (x1≥(Ae ((Ae ((2:Int)*n13))+n16))),r15.2)).bind fun r17=>bif r17.1 then (fI (0:Int) fun y18=>fI (4:Int) fun y19=>some (.tuple #[.int .i64 y18,.int .i64 y19],r17.2)) else (fI (Ae ((2:Int)*n13)) fun y20=>fI (0:Int) fun y21=>some (.tuple #[.int .i64 y20,.int .i64 y21],r17.2)))))
theorem Tx (k:Nat) (x0:Option Addr) (x1:Int) (σ:Aa):Eb k x0 x1 σ=PI k x0 x1 σ:=by
 cases k with
 | zero=>simp only[Eb,Ab]; rfl
 | succ k=>rw[QS,Px,PI]; simp only[Ex,Gb,Zy,Bj,Bd,Bm,Bk,Bl,Bo,Bn,Bi,Bp,As,AG,Bq,Al,Aw,Av,Ap]
noncomputable def J8 (k n:Nat) (p0:Option Addr) (i1:Int) (i2:Int) (i3:Int) (x10:Int) (σ:Aa):Option Ax:=match n with
 | 0=>none
 | n+1=>(fP p0 fun p0=>fI i1 fun i1=>fI i2 fun i2=>fI i3 fun i3=>fI x10 fun x10=>fL σ fun σ=>bif decide (x10<(Ae (i1+i2))) then ((PI k p0 x10 σ).bind fun r20=>EL r20.1 fun n21 n22=>(bif n22 == (0:Int) then some (n21 != i3,r20.2) else some (false,r20.2)).bind fun r23=>bif r23.1 then (some (.ret,[.int .i64 (8:Int)],r23.2)) else (J8 k n p0 i1 i2 i3 (Ae (x10+(2:Int))) r23.2)) else (some (.exit 0,[],σ)))
termination_by structural n
theorem Xs (k n:Nat) (p0:Option Addr) (i1:Int) (i2:Int) (i3:Int) (x10:Int) (σ:Aa):Dt k n p0 i1 i2 i3 x10 σ=J8 k n p0 i1 i2 i3 x10 σ:=by
 induction n generalizing p0 i1 i2 i3 x10 σ with
 | zero=>simp only[Dt,Ab]; rfl
 | succ n ih=>rw[K6,J0,J8]; simp only[Ty,Tx,ih,Bj,Bd,Bm,Bk,Bl,Bo,Bn,Bi,Bp,As,AG,Bq,Al,Aw,Av,Ap]
noncomputable def PL (k:Nat) (x0:Option Addr) (x1:Int) (x2:Int) (x3:Int) (σ:Aa):Option (Value × Aa):=match k with
 | 0=>none
 | k+1=>(fP x0 fun x0=>fI x1 fun x1=>fI x2 fun x2=>fI x3 fun x3=>fL σ fun σ=>(bif decide (x1<(0:Int)) then some (true,σ) else x0.bind fun a1=>(Cr σ a1.block (a1.off+1)).bind fun l2=>some (decide (x1≥((l2.2.1:Nat):Int)),σ)).bind fun r3=>(bif r3.1 then some (true,r3.2) else if (2:Int)=0 then none else some ((x1.tmod (2:Int)) != (0:Int),r3.2)).bind fun r4=>bif r4.1 then (fI (1:Int) fun y5=>some (.int .i64 y5,r4.2)) else (if (64:Int)=0 then none else (bif decide (x2≤(32:Int)) then (x0.bind fun a6=>(Cr r4.2 a6.block (a6.off+0)).bind fun l7=>if 0≤(Ae (x1.tdiv (64:Int)))∧(Ae (x1.tdiv (64:Int)))<(l7.2.1:Nat) then l7.1.bind fun a8=>(Ak .i64 r4.2 a8.block (a8.off+(Ae (x1.tdiv (64:Int))).toNat*2+0)).bind fun n9=>(bif n9 != (1:Int) then some (true,r4.2) else if (64:Int)=0 then none else some ((Ae ((Ae ((Ae (x1+x2))-(1:Int))).tdiv (64:Int))) != (Ae (x1.tdiv (64:Int))),r4.2)).bind fun r10=>bif r10.1 then (some (.ret,[.int .i64 (5:Int)],r10.2)) else (some (.normal,[],r10.2)) else none) else (x0.bind fun a11=>(Cr r4.2 a11.block (a11.off+0)).bind fun l12=>if 0≤(Ae (x1.tdiv (64:Int)))∧(Ae (x1.tdiv (64:Int)))<(l12.2.1:Nat) then l12.1.bind fun a13=>(Ak .i64 r4.2 a13.block (a13.off+(Ae (x1.tdiv (64:Int))).toNat*2+0)).bind fun n14=>(bif n14 != (2:Int) then some (true,r4.2) else if (64:Int)=0 then none else some ((x1.tmod (64:Int)) != (0:Int),r4.2)).bind fun r15=>(bif r15.1 then some (true,r15.2) else (PM k x0 (Ae (x1.tdiv (64:Int))) r15.2).bind fun r16=>(Bu .i64 r16.1).bind fun n17=>if (64:Int)=0 then none else some (n17 != (Ae ((Ae ((Ae (x2+(64:Int)))-(1:Int))).tdiv (64:Int))),r16.2)).bind fun r18=>bif r18.1 then (some (.ret,[.int .i64 (5:Int)],r18.2)) else (some (.normal,[],r18.2)) else none):Option Ax).bind fun r19=>if r19.1 = .normal then ((J8 k k x0 x1 x2 x3 x1 r19.2.2).bind fun r24=>if r24.1 = .exit 0 then (fI (0:Int) fun y25=>some (.int .i64 y25,r24.2.2)) else if r24.1 = .ret then (UM r24.2.1 fun n26=>fI n26 fun y27=>some (.int .i64 y27,r24.2.2)) else none) else if r19.1 = .ret then (UM r19.2.1 fun n28=>fI n28 fun y29=>some (.int .i64 y29,r19.2.2)) else none))
theorem ZS (k:Nat) (x0:Option Addr) (x1:Int) (x2:Int) (x3:Int) (σ:Aa):GD k x0 x1 x2 x3 σ=PL k x0 x1 x2 x3 σ:=by
 cases k with
 | zero=>simp only[GD,Ab]; rfl
 | succ k=>rw[QU,Pz,PL]; simp only[Ty,Tx,Xs,Bj,Bd,Bm,Bk,Bl,Bo,Bn,Bi,Bp,As,AG,Bq,Al,Aw,Av,Ap]
noncomputable def TS (k:Nat) (x0_0:Int) (x0_1:Int) (x0_2:Int) (σ:Aa):Option (Value × Aa):=match k with
 | 0=>none
 | k+1=>(fI x0_0 fun x0_0=>fI x0_1 fun x0_1=>fI x0_2 fun x0_2=>fL σ fun σ=>CV σ (.cells [.int .i64 x0_0,.int .i64 x0_1,.int .i64 x0_2] 33 true) fun h1 s2=>(Ak .i64 s2 h1 (0+0)).bind fun n3=>(Ak .i64 s2 h1 (0+1)).bind fun n4=>(Ak .i64 s2 h1 (0+2)).bind fun n5=>fI (Ae ((Ae (n3+(Ae ((16:Int)*n4))))+(Ae ((4096:Int)*n5)))) fun y6=>some (.int .i64 y6,s2))
theorem fF (k:Nat) (x0_0:Int) (x0_1:Int) (x0_2:Int) (σ:Aa):Jn k x0_0 x0_1 x0_2 σ=TS k x0_0 x0_1 x0_2 σ:=by
 cases k with
 | zero=>simp only[Jn,Ab]; rfl
 | succ k=>rw[Uu,TH,TS]; simp only[Bj,Bd,Bm,Bk,Bl,Bo,Bn,Bi,Bp,As,AG,Bq,Al,Aw,Av,Ap]
noncomputable def KI (k:Nat) (x0:Option Addr) (x1:Int) (σ:Aa):Option (Value × Aa):=match k with
 | 0=>none
 | k+1=>(fP x0 fun x0=>fI x1 fun x1=>fL σ fun σ=>(Hn k x0 σ).bind fun r1=>(CT r1.1).bind fun b2=>(bif b2 then some (decide (x1≥(0:Int)),r1.2) else some (false,r1.2)).bind fun r3=>(bif r3.1 then x0.bind fun a4=>(Ak .i64 r3.2 a4.block (a4.off+0)).bind fun n5=>some (decide (x1<n5),r3.2) else some (false,r3.2)).bind fun r6=>fB r6.1 fun y7=>some (.bool y7,r6.2))
theorem Rj (k:Nat) (x0:Option Addr) (x1:Int) (σ:Aa):DL k x0 x1 σ=KI k x0 x1 σ:=by
 cases k with
 | zero=>simp only[DL,Ab]; rfl
 | succ k=>rw[Pj,Nx,KI]; simp only[GP,Bj,Bd,Bm,Bk,Bl,Bo,Bn,Bi,Bp,As,AG,Bq,Al,Aw,Av,Ap]
noncomputable def ND (k:Nat) (x0:Option Addr) (x1:Int) (σ:Aa):Option (Value × Aa):=match k with
 | 0=>none
 | k+1=>(fP x0 fun x0=>fI x1 fun x1=>fL σ fun σ=>(bif decide (x1≥(0:Int)) then (Jh k x0 σ).bind fun r1=>(Bu .i64 r1.1).bind fun n2=>some (decide (x1≤n2),r1.2) else some (false,σ)).bind fun r3=>fB r3.1 fun y4=>some (.bool y4,r3.2))
theorem Yz (k:Nat) (x0:Option Addr) (x1:Int) (σ:Aa):Fq k x0 x1 σ=ND k x0 x1 σ:=by
 cases k with
 | zero=>simp only[Fq,Ab]; rfl
 | succ k=>rw[Pk,Ny,ND]; simp only[NG,Bj,Bd,Bm,Bk,Bl,Bo,Bn,Bi,Bp,As,AG,Bq,Al,Aw,Av,Ap]
noncomputable def Lk (k:Nat) (x0:Int) (c0:Option Addr) (σ:Aa):Option (Value × Aa):=match k with
 | 0=>none
 | k+1=>(fI x0 fun x0=>fP c0 fun c0=>fL σ fun σ=>c0.bind fun a1=>(J4 σ a1.block a1.off).bind fun p2=>(ND k p2 x0 σ).bind fun r3=>(CT r3.1).bind fun b4=>fB (!b4) fun y5=>some (.bool y5,r3.2))
theorem VA (k:Nat) (x0:Int) (c0:Option Addr) (σ:Aa):CH k x0 c0 σ=Lk k x0 c0 σ:=by
 cases k with
 | zero=>simp only[CH,Ab]; rfl
 | succ k=>rw[Nb,Le,Lk]; simp only[Yz,Bj,Bd,Bm,Bk,Bl,Bo,Bn,Bi,Bp,As,AG,Bq,Al,Aw,Av,Ap]
theorem UJ (k:Nat) (x0:Int) (c0:Option Addr) (σ:Aa):fn P (XK Kn.b) H k 179 [.int .i64 x0,.pointer c0] σ=CH k x0 c0 σ:=by
 simp only[CH,Ab]
noncomputable def T9 (k:Nat) (n:FuncId) (l:List Value) (σ:Aa):Option (Value × Aa):=
 if n=179 then (match l with
  | [.int .i64 y1,.pointer y2]=>Lk k y1 y2 σ
  | l=>fn P (XK Kn.b) H k 179 l σ) else
 fn P (XK Kn.b) H k n l σ
theorem jV (k:Nat) (n:FuncId) (l:List Value) (σ:Aa):fn P (XK Kn.b) H k n l σ=T9 k n l σ:=by
 unfold T9
 split
 ·rename_i hn; subst hn
  split
  ·exact (UJ k _ _ σ).trans (VA k _ _ σ)
  ·rfl
 rfl
noncomputable def XG (k:Nat) (f:Value) (args:List Value) (σ:Aa):Option (Value × Aa):=match f with
 | .func (.func n) first cap=>T9 k n (first.toList++args++cap.toList) σ
 | .func (.method nm) first _=>(match first.toList++args with
   | .iface t v::rest=>(Vt P t nm).bind fun n=>T9 k n (v::rest) σ
   | _=>none)
 | _=>none
theorem ZH (k:Nat) (f:Value) (args:List Value) (σ:Aa):NT k f args σ=XG k f args σ:=by
 simp only[NT,Ab]
 unfold PW XG
 simp only[jV]
 rfl
noncomputable def G6 (k n:Nat) (p0:Option Addr) (c1:Nat) (c2:Nat) (v3:Value) (i4:Int) (x8:Int) (σ:Aa):Option Ax:=match n with
 | 0=>none
 | n+1=>(fP p0 fun p0=>fN c1 fun c1=>fN c2 fun c2=>fI i4 fun i4=>fI x8 fun x8=>fL σ fun σ=>bif decide (x8<i4) then (if 0≤x8∧x8<(c1:Nat) then p0.bind fun a1=>(Ak .i64 σ a1.block (a1.off+x8.toNat*1)).bind fun n2=>(XG k v3 [.int .i64 n2] σ).bind fun r3=>(CT r3.1).bind fun b4=>bif b4 then (some (.ret,[.int .i64 x8],r3.2)) else (G6 k n p0 c1 c2 v3 i4 (Ae (x8+(1:Int))) r3.2) else none) else (some (.exit 0,[],σ)))
termination_by structural n
theorem SM (k n:Nat) (p0:Option Addr) (c1:Nat) (c2:Nat) (v3:Value) (i4:Int) (x8:Int) (σ:Aa):CR k n p0 c1 c2 v3 i4 x8 σ=G6 k n p0 c1 c2 v3 i4 x8 σ:=by
 induction n generalizing p0 c1 c2 v3 i4 x8 σ with
 | zero=>simp only[CR,Ab]; rfl
 | succ n ih=>rw[Hz,Gz,G6]; simp only[ZH,ih,Bj,Bd,Bm,Bk,Bl,Bo,Bn,Bi,Bp,As,AG,Bq,Al,Aw,Av,Ap]
noncomputable def KJ (k:Nat) (x0:Option Addr × Nat × Nat) (x1:Value) (σ:Aa):Option (Value × Aa):=match k with
 | 0=>none
 | k+1=>(fS x0 fun x0=>fL σ fun σ=>(G6 k k x0.1 x0.2.1 x0.2.2 x1 ((x0.2.1:Nat):Int) (0:Int) σ).bind fun r5=>if r5.1 = .exit 0 then (fI (-1:Int) fun y6=>some (.int .i64 y6,r5.2.2)) else if r5.1 = .ret then (UM r5.2.1 fun n7=>fI n7 fun y8=>some (.int .i64 y8,r5.2.2)) else none)
theorem UK (k:Nat) (x0:Option Addr × Nat × Nat) (x1:Value) (σ:Aa):EF k x0 x1 σ=KJ k x0 x1 σ:=by
 cases k with
 | zero=>simp only[EF,Ab]; rfl
 | succ k=>rw[M0,Kw,KJ]; simp only[ZH,SM,Bj,Bd,Bm,Bk,Bl,Bo,Bn,Bi,Bp,As,AG,Bq,Al,Aw,Av,Ap]
noncomputable def I3 (k:Nat) (x0:Option Addr × Nat × Nat) (x1:Value) (σ:Aa):Option (Value × Aa):=match k with
 | 0=>none
 | k+1=>(fS x0 fun x0=>fL σ fun σ=>(KJ k (x0.1,x0.2.1,x0.2.2) (x1) σ).bind fun r1=>(Bu .i64 r1.1).bind fun n2=>fB (decide (n2≥(0:Int))) fun y3=>some (.bool y3,r1.2))
theorem SL (k:Nat) (x0:Option Addr × Nat × Nat) (x1:Value) (σ:Aa):DE k x0 x1 σ=I3 k x0 x1 σ:=by
 cases k with
 | zero=>simp only[DE,Ab]; rfl
 | succ k=>rw[KO,Iz,I3]; simp only[UK,Bj,Bd,Bm,Bk,Bl,Bo,Bn,Bi,Bp,As,AG,Bq,Al,Aw,Av,Ap]
noncomputable def NC (k:Nat) (x0:Option Addr) (x1:Int) (x2:Option Addr × Nat × Nat) (σ:Aa):Option (Value × Aa):=match k with
 | 0=>none
 | k+1=>(fP x0 fun x0=>fI x1 fun x1=>fS x2 fun x2=>fL σ fun σ=>CV σ (.cells [.pointer x0] 92 true) fun h1 s2=>(J4 s2 h1 0).bind fun p3=>(Hn k p3 s2).bind fun r4=>(CT r4.1).bind fun b5=>bif !b5 then (fI (5:Int) fun y6=>some (.int .i64 y6,r4.2)) else ((J4 r4.2 h1 0).bind fun p7=>(KI k p7 x1 r4.2).bind fun r8=>(CT r8.1).bind fun b9=>(bif !b9 then some (true,r8.2) else (I3 k (x2.1,x2.2.1,x2.2.2) (.func (.func 179) #[] #[.pointer (some ⟨h1,0,none⟩)]) r8.2).bind fun r10=>(CT r10.1).bind fun b11=>some (b11,r10.2)).bind fun r12=>bif r12.1 then (fI (1:Int) fun y13=>some (.int .i64 y13,r12.2)) else (fI (0:Int) fun y14=>some (.int .i64 y14,r12.2))))
theorem Yy (k:Nat) (x0:Option Addr) (x1:Int) (x2:Option Addr × Nat × Nat) (σ:Aa):Fp k x0 x1 x2 σ=NC k x0 x1 x2 σ:=by
 cases k with
 | zero=>simp only[Fp,Ab]; rfl
 | succ k=>rw[Ph,Nw,NC]; simp only[GP,Rj,SL,Bj,Bd,Bm,Bk,Bl,Bo,Bn,Bi,Bp,As,AG,Bq,Al,Aw,Av,Ap]
noncomputable def PQ (k:Nat) (x0:Option Addr) (x1:Int) (x2:Int) (σ:Aa):Option (Value × Aa):=match k with
 | 0=>none
 | k+1=>(fP x0 fun x0=>fI x1 fun x1=>fI x2 fun x2=>fL σ fun σ=>x0.bind fun a1=>(Ak .i64 σ a1.block (a1.off+1)).bind fun n2=>x0.bind fun a3=>(Cr σ a3.block (a3.off+2)).bind fun l4=>if (64:Int)=0 then none else if 0≤(Ae ((Ae (x1*n2)).tdiv (64:Int)))∧(Ae ((Ae (x1*n2)).tdiv (64:Int)))<(l4.2.1:Nat) then l4.1.bind fun a5=>(Ak .u64 σ a5.block (a5.off+(Ae ((Ae (x1*n2)).tdiv (64:Int))).toNat*1)).bind fun n6=>(Jh k x0 σ).bind fun r7=>(Bu .i64 r7.1).bind fun n8=>if (64:Int)=0 then none else if ((Ae (x1*n2)).tmod (64:Int))<0 then none else if (64:Int)=0 then none else if ((Ae (x1*n2)).tmod (64:Int))<0 then none else Y1 r7.2 a5.block (a5.off+(Ae ((Ae (x1*n2)).tdiv (64:Int))).toNat*1) (.int .u64 (u64 ((BitVec.ofInt 64 (u64 ((BitVec.ofInt 64 n6 &&& ~~~ (BitVec.ofInt 64 (u64 ((u64 (n8))*2 ^ (min ((Ae (x1*n2)).tmod (64:Int)).toNat 64))))).toNat)) ||| BitVec.ofInt 64 (u64 ((u64 (x2))*2 ^ (min ((Ae (x1*n2)).tmod (64:Int)).toNat 64)))).toNat))) fun s9=>some (.tuple #[],s9) else none)
theorem aD (k:Nat) (x0:Option Addr) (x1:Int) (x2:Int) (σ:Aa):GL k x0 x1 x2 σ=PQ k x0 x1 x2 σ:=by
 cases k with
 | zero=>simp only[GL,Ab]; rfl
 | succ k=>rw[Rf,PA,PQ]; simp only[NG,Bj,Bd,Bm,Bk,Bl,Bo,Bn,Bi,Bp,As,AG,Bq,Al,Aw,Av,Ap]
noncomputable def Ka (k:Nat) (x0:Option Addr) (x1:Int) (x2:Int) (σ:Aa):Option (Value × Aa):=match k with
 | 0=>none
 | k+1=>(fP x0 fun x0=>fI x1 fun x1=>fI x2 fun x2=>fL σ fun σ=>CV σ (.cells [.int .i64 x2] 3 true) fun h1 s2=>(NC k x0 x1 (some ⟨h1,0,none⟩,1,1) s2).bind fun r3=>(Bu .i64 r3.1).bind fun n4=>bif n4 != (0:Int) then (fI n4 fun y5=>some (.int .i64 y5,r3.2)) else ((PQ k x0 x1 x2 r3.2).bind fun r6=>W9 r6.1 (fI (0:Int) fun y7=>some (.int .i64 y7,r6.2))))
theorem TB (k:Nat) (x0:Option Addr) (x1:Int) (x2:Int) (σ:Aa):CS k x0 x1 x2 σ=Ka k x0 x1 x2 σ:=by
 cases k with
 | zero=>simp only[CS,Ab]; rfl
 | succ k=>rw[Rd,P8,Ka]; simp only[Yy,aD,Bj,Bd,Bm,Bk,Bl,Bo,Bn,Bi,Bp,As,AG,Bq,Al,Aw,Av,Ap]
noncomputable def Lt (k:Nat) (x0:Option Addr) (x1:Int) (x2_0:Int) (x2_1:Int) (x2_2:Int) (σ:Aa):Option (Value × Aa):=match k with
 | 0=>none
 | k+1=>(fP x0 fun x0=>fI x1 fun x1=>fI x2_0 fun x2_0=>fI x2_1 fun x2_1=>fI x2_2 fun x2_2=>fL σ fun σ=>CV σ (.cells [.int .i64 x2_0,.int .i64 x2_1,.int .i64 x2_2] 33 true) fun h1 s2=>(Eh k x0 s2).bind fun r3=>(CT r3.1).bind fun b4=>bif !b4 then (fI (0:Int) fun y5=>fI (5:Int) fun y6=>some (.tuple #[.int .i64 y5,.int .i64 y6],r3.2)) else ((Ak .i64 r3.2 h1 0).bind fun n7=>(Ak .i64 r3.2 h1 (0+1)).bind fun n8=>(Ak .i64 r3.2 h1 (0+1+1)).bind fun n9=>(OV k n7 n8 n9 r3.2).bind fun r10=>(CT r10.1).bind fun b11=>bif !b11 then (fI (0:Int) fun y12=>fI (2:Int) fun y13=>some (.tuple #[.int .i64 y12,.int .i64 y13],r10.2)) else ((Ak .i64 r10.2 h1 0).bind fun n14=>(Ak .i64 r10.2 h1 (0+1)).bind fun n15=>(Ak .i64 r10.2 h1 (0+1+1)).bind fun n16=>(OW k n14 n15 n16 r10.2).bind fun r17=>(Bu .i64 r17.1).bind fun n18=>(PL k x0 x1 n18 (-1:Int) r17.2).bind fun r19=>(Bu .i64 r19.1).bind fun n20=>bif n20 != (0:Int) then (fI (0:Int) fun y21=>fI n20 fun y22=>some (.tuple #[.int .i64 y21,.int .i64 y22],r19.2)) else (x0.bind fun a23=>(Ak .i64 r19.2 a23.block (a23.off+6)).bind fun n24=>x0.bind fun a25=>Y1 r19.2 a25.block (a25.off+6) (.int .i64 (Ae (n24+(1:Int)))) fun s26=>x0.bind fun a27=>(Cr s26 a27.block (a27.off+1)).bind fun l28=>x0.bind fun a29=>(Cr s26 a29.block (a29.off+1)).bind fun l30=>x0.bind fun a31=>(Ak .i64 s26 a31.block (a31.off+6)).bind fun n32=>(Ak .i64 s26 h1 0).bind fun n33=>(Ak .i64 s26 h1 (0+1)).bind fun n34=>(Ak .i64 s26 h1 (0+1+1)).bind fun n35=>(TS k n33 n34 n35 s26).bind fun r36=>(Bu .i64 r36.1).bind fun n37=>if 0≤x1∧x1<(l28.2.1:Nat) then l28.1.bind fun a38=>Y1 r36.2 a38.block (a38.off+x1.toNat*1) (.int .i64 n32) fun s39=>if 0≤(Ae (x1+(1:Int)))∧(Ae (x1+(1:Int)))<(l30.2.1:Nat) then l30.1.bind fun a40=>Y1 s39 a40.block (a40.off+(Ae (x1+(1:Int))).toNat*1) (.int .i64 n37) fun s41=>x0.bind fun a42=>(J4 s41 a42.block (a42.off+2)).bind fun p43=>if (2:Int)=0 then none else (Ka k p43 (Ae (x1.tdiv (2:Int))) (1:Int) s41).bind fun r44=>(Bu .i64 r44.1).bind fun n45=>x0.bind fun a46=>(ou r44.2 a46.block (a46.off+4)).bind fun m47=>x0.bind fun a48=>(Ak .i64 r44.2 a48.block (a48.off+6)).bind fun n49=>m47.bind fun h51=>(S9 r44.2 h51).bind fun es50=>tG r44.2 h51 (PF n49 (.int .i64 x1) es50) fun s52=>x0.bind fun a53=>(Ak .i64 s52 a53.block (a53.off+6)).bind fun n54=>fI n54 fun y55=>fI (0:Int) fun y56=>some (.tuple #[.int .i64 y55,.int .i64 y56],s52) else none else none))))
theorem Sz (k:Nat) (x0:Option Addr) (x1:Int) (x2_0:Int) (x2_1:Int) (x2_2:Int) (σ:Aa):C4 k x0 x1 x2_0 x2_1 x2_2 σ=Lt k x0 x1 x2_0 x2_1 x2_2 σ:=by
 cases k with
 | zero=>simp only[C4,Ab]; rfl
 | succ k=>rw[Ql,Ou,Lt]; simp only[TN,TL,Ex,ZS,fF,TB,Bj,Bd,Bm,Bk,Bl,Bo,Bn,Bi,Bp,As,AG,Bq,Al,Aw,Av,Ap]
noncomputable def KG (k:Nat) (x0:Option Addr) (σ:Aa):Option (Value × Aa):=match k with
 | 0=>none
 | k+1=>(fP x0 fun x0=>fL σ fun σ=>(PX P 42 (.pointer x0) (.pointer none)).bind fun e1=>(bif !e1 then x0.bind fun a2=>(J4 σ a2.block (a2.off+0)).bind fun p3=>(PX P 25 (.pointer p3) (.pointer none)).bind fun e4=>some (!e4,σ) else some (false,σ)).bind fun r5=>fB r5.1 fun y6=>some (.bool y6,r5.2))
theorem Uf (k:Nat) (x0:Option Addr) (σ:Aa):AE k x0 σ=KG k x0 σ:=by
 cases k with
 | zero=>simp only[AE,Ab]; rfl
 | succ k=>rw[Mx,Ks,KG]; simp only[Bj,Bd,Bm,Bk,Bl,Bo,Bn,Bi,Bp,As,AG,Bq,Al,Aw,Av,Ap]
noncomputable def Mp (k:Nat)  (σ:Aa):Option (Value × Aa):=match k with
 | 0=>none
 | k+1=>(fL σ fun σ=>CV σ (.cells [.iface 150 (.agg #[]),.iface 151 (.agg #[]),.iface 152 (.agg #[]),.iface 153 (.agg #[]),.iface 154 (.agg #[])] 116 true) fun h1 s2=>some (.slice (some ⟨h1,0,none⟩) 5 5,s2))
theorem Tc (k:Nat)  (σ:Aa):Ea k  σ=Mp k  σ:=by
 cases k with
 | zero=>simp only[Ea,Ab]; rfl
 | succ k=>rw[QR,Pw,Mp]; simp only[Bj,Bd,Bm,Bk,Bl,Bo,Bn,Bi,Bp,As,AG,Bq,Al,Aw,Av,Ap]
noncomputable def V7 (k:Nat) (x0:Int) (σ:Aa):Option (Value × Aa):=match k with
 | 0=>none
 | k+1=>(fI x0 fun x0=>fL σ fun σ=>(bif decide (x0≥(0:Int)) then some (decide (x0<(8:Int)),σ) else some (false,σ)).bind fun r1=>fB r1.1 fun y2=>some (.bool y2,r1.2))
theorem YH (k:Nat) (x0:Int) (σ:Aa):HF k x0 σ=V7 k x0 σ:=by
 cases k with
 | zero=>simp only[HF,Ab]; rfl
 | succ k=>rw[VV,Vd,V7]; simp only[Bj,Bd,Bm,Bk,Bl,Bo,Bn,Bi,Bp,As,AG,Bq,Al,Aw,Av,Ap]
noncomputable def Lw (k:Nat) (x0:Option Addr) (x1:Int) (σ:Aa):Option (Value × Aa):=match k with
 | 0=>none
 | k+1=>(fP x0 fun x0=>fI x1 fun x1=>fL σ fun σ=>(Eh k x0 σ).bind fun r1=>(CT r1.1).bind fun b2=>(bif b2 then some (decide (x1≥(1:Int)),r1.2) else some (false,r1.2)).bind fun r3=>(bif r3.1 then x0.bind fun a4=>(Cr r3.2 a4.block (a4.off+0)).bind fun l5=>some (decide (x1<((l5.2.1:Nat):Int)),r3.2) else some (false,r3.2)).bind fun r6=>fB r6.1 fun y7=>some (.bool y7,r6.2))
theorem N4 (k:Nat) (x0:Option Addr) (x1:Int) (σ:Aa):CZ k x0 x1 σ=Lw k x0 x1 σ:=by
 cases k with
 | zero=>simp only[CZ,Ab]; rfl
 | succ k=>rw[Qo,Ox,Lw]; simp only[Ex,Bj,Bd,Bm,Bk,Bl,Bo,Bn,Bi,Bp,As,AG,Bq,Al,Aw,Av,Ap]
noncomputable def Mc (k:Nat) (x0_0:Int) (x0_1:Int) (σ:Aa):Option (Value × Aa):=match k with
 | 0=>none
 | k+1=>(fI x0_0 fun x0_0=>fI x0_1 fun x0_1=>fL σ fun σ=>CV σ (.cells [.int .i64 x0_0,.int .i64 x0_1] 104 true) fun h1 s2=>(Ak .i64 s2 h1 0).bind fun n3=>(Ak .i64 s2 h1 (0+1)).bind fun n4=>(PX P 104 (.agg #[.int .i64 n3,.int .i64 n4]) (.agg #[.int .i64 (0:Int),.int .i64 (0:Int)])).bind fun e5=>fB (!e5) fun y6=>some (.bool y6,s2))
theorem Wv (k:Nat) (x0_0:Int) (x0_1:Int) (σ:Aa):CY k x0_0 x0_1 σ=Mc k x0_0 x0_1 σ:=by
 cases k with
 | zero=>simp only[CY,Ab]; rfl
 | succ k=>rw[NV,L8,Mc]; simp only[Bj,Bd,Bm,Bk,Bl,Bo,Bn,Bi,Bp,As,AG,Bq,Al,Aw,Av,Ap]
theorem Vp (k:Nat) (x0_0:Int) (x0_1:Int) (σ:Aa):fn P (XK Kn.b) H k 166 [.agg #[.int .i64 x0_0,.int .i64 x0_1]] σ=CY k x0_0 x0_1 σ:=by
 simp only[CY,Ab]
noncomputable def Rx (k:Nat) (n:FuncId) (l:List Value) (σ:Aa):Option (Value × Aa):=
 if n=166 then (match l with
  | [.agg ⟨[.int .i64 y1,.int .i64 y2]⟩]=>Mc k y1 y2 σ
  | l=>fn P (XK Kn.b) H k 166 l σ) else
 fn P (XK Kn.b) H k n l σ
theorem ic (k:Nat) (n:FuncId) (l:List Value) (σ:Aa):fn P (XK Kn.b) H k n l σ=Rx k n l σ:=by
 unfold Rx
 split
 ·rename_i hn; subst hn
  split
  ·exact (Vp k _ _ σ).trans (Wv k _ _ σ)
  ·rfl
 rfl
noncomputable def V4 (k:Nat) (f:Value) (args:List Value) (σ:Aa):Option (Value × Aa):=match f with
 | .func (.func n) first cap=>Rx k n (first.toList++args++cap.toList) σ
 | .func (.method nm) first _=>(match first.toList++args with
   | .iface t v::rest=>(Vt P t nm).bind fun n=>Rx k n (v::rest) σ
   | _=>none)
 | _=>none
theorem YF (k:Nat) (f:Value) (args:List Value) (σ:Aa):IK k f args σ=V4 k f args σ:=by
 simp only[IK,Ab]
 unfold PW V4
 simp only[ic]
 rfl
noncomputable def Ey (k n:Nat) (p0:Option Addr) (c1:Nat) (c2:Nat) (v3:Value) (i4:Int) (x8:Int) (σ:Aa):Option Ax:=match n with
 | 0=>none
 | n+1=>(fP p0 fun p0=>fN c1 fun c1=>fN c2 fun c2=>fI i4 fun i4=>fI x8 fun x8=>fL σ fun σ=>bif decide (x8<i4) then (if 0≤x8∧x8<(c1:Nat) then p0.bind fun a1=>(Ak .i64 σ a1.block (a1.off+x8.toNat*2)).bind fun n2=>(Ak .i64 σ a1.block (a1.off+x8.toNat*2+1)).bind fun n3=>(V4 k v3 [.agg #[.int .i64 n2,.int .i64 n3]] σ).bind fun r4=>(CT r4.1).bind fun b5=>bif b5 then (some (.ret,[.int .i64 x8],r4.2)) else (Ey k n p0 c1 c2 v3 i4 (Ae (x8+(1:Int))) r4.2) else none) else (some (.exit 0,[],σ)))
termination_by structural n
theorem On (k n:Nat) (p0:Option Addr) (c1:Nat) (c2:Nat) (v3:Value) (i4:Int) (x8:Int) (σ:Aa):Bw k n p0 c1 c2 v3 i4 x8 σ=Ey k n p0 c1 c2 v3 i4 x8 σ:=by
 induction n generalizing p0 c1 c2 v3 i4 x8 σ with
 | zero=>simp only[Bw,Ab]; rfl
 | succ n ih=>rw[Fi,Et,Ey]; simp only[YF,ih,Bj,Bd,Bm,Bk,Bl,Bo,Bn,Bi,Bp,As,AG,Bq,Al,Aw,Av,Ap]
noncomputable def Hg (k:Nat) (x0:Option Addr × Nat × Nat) (x1:Value) (σ:Aa):Option (Value × Aa):=match k with
 | 0=>none
 | k+1=>(fS x0 fun x0=>fL σ fun σ=>(Ey k k x0.1 x0.2.1 x0.2.2 x1 ((x0.2.1:Nat):Int) (0:Int) σ).bind fun r6=>if r6.1 = .exit 0 then (fI (-1:Int) fun y7=>some (.int .i64 y7,r6.2.2)) else if r6.1 = .ret then (UM r6.2.1 fun n8=>fI n8 fun y9=>some (.int .i64 y9,r6.2.2)) else none)
theorem PT (k:Nat) (x0:Option Addr × Nat × Nat) (x1:Value) (σ:Aa):CL k x0 x1 σ=Hg k x0 x1 σ:=by
 cases k with
 | zero=>simp only[CL,Ab]; rfl
 | succ k=>rw[IX,GZ,Hg]; simp only[YF,On,Bj,Bd,Bm,Bk,Bl,Bo,Bn,Bi,Bp,As,AG,Bq,Al,Aw,Av,Ap]
noncomputable def Ge (k:Nat) (x0:Option Addr × Nat × Nat) (x1:Value) (σ:Aa):Option (Value × Aa):=match k with
 | 0=>none
 | k+1=>(fS x0 fun x0=>fL σ fun σ=>(Hg k (x0.1,x0.2.1,x0.2.2) (x1) σ).bind fun r1=>(Bu .i64 r1.1).bind fun n2=>fB (decide (n2≥(0:Int))) fun y3=>some (.bool y3,r1.2))
theorem Iw (k:Nat) (x0:Option Addr × Nat × Nat) (x1:Value) (σ:Aa):Cm k x0 x1 σ=Ge k x0 x1 σ:=by
 cases k with
 | zero=>simp only[Cm,Ab]; rfl
 | succ k=>rw[HL,FO,Ge]; simp only[PT,Bj,Bd,Bm,Bk,Bl,Bo,Bn,Bi,Bp,As,AG,Bq,Al,Aw,Av,Ap]
noncomputable def Je (k n:Nat) (p0:Option Addr) (i1:Int) (h2:Nat) (i3:Int) (x54:Int) (σ:Aa):Option Ax:=match n with
 | 0=>none
 | n+1=>(fP p0 fun p0=>fI i1 fun i1=>fN h2 fun h2=>fI i3 fun i3=>fI x54 fun x54=>fL σ fun σ=>bif decide (x54<i3) then (p0.bind fun a25=>(Cr σ a25.block (a25.off+0)).bind fun l26=>(Ak .i64 σ h2 0).bind fun n27=>(Ak .i64 σ h2 (0+1)).bind fun n28=>if 0≤(Ae (i1+x54))∧(Ae (i1+x54))<(l26.2.1:Nat) then l26.1.bind fun a29=>VH σ a29.block (a29.off+(Ae (i1+x54)).toNat*2) [.int .i64 n27,.int .i64 n28] fun s30=>Je k n p0 i1 h2 i3 (Ae (x54+(1:Int))) s30 else none) else (some (.exit 1,[],σ)))
termination_by structural n
theorem Ww (k n:Nat) (p0:Option Addr) (i1:Int) (h2:Nat) (i3:Int) (x54:Int) (σ:Aa):D8 k n p0 i1 h2 i3 x54 σ=Je k n p0 i1 h2 i3 x54 σ:=by
 induction n generalizing p0 i1 h2 i3 x54 σ with
 | zero=>simp only[D8,Ab]; rfl
 | succ n ih=>rw[JO,IH,Je]; simp only[Ex,YH,N4,Iw,ih,Bj,Bd,Bm,Bk,Bl,Bo,Bn,Bi,Bp,As,AG,Bq,Al,Aw,Av,Ap]
noncomputable def Lv (k:Nat) (x0:Option Addr) (x1:Int) (x2:Int) (x3_0:Int) (x3_1:Int) (x4_0:Int) (x4_1:Int) (σ:Aa):Option (Value × Aa):=match k with
 | 0=>none
 | k+1=>(fP x0 fun x0=>fI x1 fun x1=>fI x2 fun x2=>fI x3_0 fun x3_0=>fI x3_1 fun x3_1=>fI x4_0 fun x4_0=>fI x4_1 fun x4_1=>fL σ fun σ=>CV σ (.cells [.int .i64 x3_0,.int .i64 x3_1] 104 true) fun h1 s2=>CV s2 (.cells [.int .i64 x4_0,.int .i64 x4_1] 104 true) fun h3 s4=>(Eh k x0 s4).bind fun r5=>(CT r5.1).bind fun b6=>bif !b6 then (fI (5:Int) fun y7=>some (.int .i64 y7,r5.2)) else ((Lw k x0 x1 r5.2).bind fun r8=>(CT r8.1).bind fun b9=>(bif !b9 then some (true,r8.2) else some (decide (x2<(1:Int)),r8.2)).bind fun r10=>(bif r10.1 then some (true,r10.2) else x0.bind fun a11=>(Cr r10.2 a11.block (a11.off+0)).bind fun l12=>some (decide (x2>(Ae (((l12.2.1:Nat):Int)-x1))),r10.2)).bind fun r13=>(bif r13.1 then some (true,r13.2) else (Ak .i64 r13.2 h1 (0+1)).bind fun n14=>(V7 k n14 r13.2).bind fun r15=>(CT r15.1).bind fun b16=>some (!b16,r15.2)).bind fun r17=>bif r17.1 then (fI (1:Int) fun y18=>some (.int .i64 y18,r17.2)) else (x0.bind fun a19=>(Cr r17.2 a19.block (a19.off+0)).bind fun l20=>(Md 104 2 (l20.1,l20.2.1,l20.2.2) (some (.int .i64 x1)) (some (.int .i64 (Ae (x1+x2)))) none r17.2).bind fun l21=>(Ge k (l21.1,l21.2.1,l21.2.2) (.func (.func 166) #[] #[]) r17.2).bind fun r22=>(CT r22.1).bind fun b23=>bif b23 then (fI (8:Int) fun y24=>some (.int .i64 y24,r22.2)) else ((Je k k x0 x1 h3 x2 (0:Int) r22.2).bind fun r31=>if r31.1 = .exit 1 then (x0.bind fun a32=>(Cr r31.2.2 a32.block (a32.off+0)).bind fun l33=>(Ak .i64 r31.2.2 h1 0).bind fun n34=>(Ak .i64 r31.2.2 h1 (0+1)).bind fun n35=>if 0≤x1∧x1<(l33.2.1:Nat) then l33.1.bind fun a36=>VH r31.2.2 a36.block (a36.off+x1.toNat*2) [.int .i64 n34,.int .i64 n35] fun s37=>fI (0:Int) fun y38=>some (.int .i64 y38,s37) else none) else none))))
theorem S7 (k:Nat) (x0:Option Addr) (x1:Int) (x2:Int) (x3_0:Int) (x3_1:Int) (x4_0:Int) (x4_1:Int) (σ:Aa):Ew k x0 x1 x2 x3_0 x3_1 x4_0 x4_1 σ=Lv k x0 x1 x2 x3_0 x3_1 x4_0 x4_1 σ:=by
 cases k with
 | zero=>simp only[Ew,Ab]; rfl
 | succ k=>rw[Qn,Ow,Lv]; simp only[Ex,YH,N4,Iw,Ww,Bj,Bd,Bm,Bk,Bl,Bo,Bn,Bi,Bp,As,AG,Bq,Al,Aw,Av,Ap]
noncomputable def KH (k:Nat) (x0:Option Addr) (x1:Int) (x2:Int) (x3:Int) (σ:Aa):Option (Value × Aa):=match k with
 | 0=>none
 | k+1=>(fP x0 fun x0=>fI x1 fun x1=>fI x2 fun x2=>fI x3 fun x3=>fL σ fun σ=>(Lv k x0 x1 x2 (2:Int) x3 (3:Int) x3 σ).bind fun r1=>(Bu .i64 r1.1).bind fun n2=>fI n2 fun y3=>some (.int .i64 y3,r1.2))
theorem Oc (k:Nat) (x0:Option Addr) (x1:Int) (x2:Int) (x3:Int) (σ:Aa):DI k x0 x1 x2 x3 σ=KH k x0 x1 x2 x3 σ:=by
 cases k with
 | zero=>simp only[DI,Ab]; rfl
 | succ k=>rw[My,Ku,KH]; simp only[S7,Bj,Bd,Bm,Bk,Bl,Bo,Bn,Bi,Bp,As,AG,Bq,Al,Aw,Av,Ap]
noncomputable def Gd (k n:Nat) (p0:Option Addr) (i1:Int) (x7:Int) (σ:Aa):Option Ax:=match n with
 | 0=>none
 | n+1=>(fP p0 fun p0=>fI i1 fun i1=>fI x7 fun x7=>fL σ fun σ=>p0.bind fun a1=>(J4 σ a1.block (a1.off+0)).bind fun p2=>(EA k p2 σ).bind fun r3=>(Bu .i64 r3.1).bind fun n4=>bif decide ((Ae (x7+i1))≤n4) then (p0.bind fun a5=>(J4 r3.2 a5.block (a5.off+0)).bind fun p6=>p0.bind fun a7=>(Ak .i64 r3.2 a7.block (a7.off+1)).bind fun n8=>(KH k p6 x7 i1 n8 r3.2).bind fun r9=>(Bu .i64 r9.1).bind fun n10=>bif n10 == (0:Int) then (some (.ret,[.int .i64 (Ae (x7*(64:Int))),.bool true],r9.2)) else (Gd k n p0 i1 (Ae (x7+(1:Int))) r9.2)) else (some (.exit 0,[],r3.2)))
termination_by structural n
theorem Ro (k n:Nat) (p0:Option Addr) (i1:Int) (x7:Int) (σ:Aa):Cg k n p0 i1 x7 σ=Gd k n p0 i1 x7 σ:=by
 induction n generalizing p0 i1 x7 σ with
 | zero=>simp only[Cg,Ab]; rfl
 | succ n ih=>rw[Ki,HV,Gd]; simp only[Du,Oc,ih,Bj,Bd,Bm,Bk,Bl,Bo,Bn,Bi,Bp,As,AG,Bq,Al,Aw,Av,Ap]
noncomputable def JZ (k:Nat) (x0:Option Addr) (x1:Int) (σ:Aa):Option (Value × Aa):=match k with
 | 0=>none
 | k+1=>(fP x0 fun x0=>fI x1 fun x1=>fL σ fun σ=>if (64:Int)=0 then none else (Gd k k x0 (Ae ((Ae ((Ae (x1+(64:Int)))-(1:Int))).tdiv (64:Int))) (1:Int) σ).bind fun r11=>if r11.1 = .exit 0 then (fI (0:Int) fun y12=>fB false fun y13=>some (.tuple #[.int .i64 y12,.bool y13],r11.2.2)) else if r11.1 = .ret then (iw r11.2.1 fun n14 b15=>fI n14 fun y16=>fB b15 fun y17=>some (.tuple #[.int .i64 y16,.bool y17],r11.2.2)) else none)
theorem TG (k:Nat) (x0:Option Addr) (x1:Int) (σ:Aa):Ck k x0 x1 σ=JZ k x0 x1 σ:=by
 cases k with
 | zero=>simp only[Ck,Ab]; rfl
 | succ k=>rw[LK,JD,JZ]; simp only[Du,Oc,Ro,Bj,Bd,Bm,Bk,Bl,Bo,Bn,Bi,Bp,As,AG,Bq,Al,Aw,Av,Ap]
theorem SQ (k:Nat) (x0:Option Addr) (x1:Int) (σ:Aa):fn P (XK Kn.b) H k 99 [.pointer x0,.int .i64 x1] σ=Ck k x0 x1 σ:=by
 simp only[Ck,Ab]
noncomputable def Ls (k:Nat) (x0:Option Addr) (x1:Int) (x2:Int) (σ:Aa):Option (Value × Aa):=match k with
 | 0=>none
 | k+1=>(fP x0 fun x0=>fI x1 fun x1=>fI x2 fun x2=>fL σ fun σ=>(Lv k x0 x1 (1:Int) (1:Int) x2 (0:Int) (0:Int) σ).bind fun r1=>(Bu .i64 r1.1).bind fun n2=>fI n2 fun y3=>some (.int .i64 y3,r1.2))
theorem N2 (k:Nat) (x0:Option Addr) (x1:Int) (x2:Int) (σ:Aa):C3 k x0 x1 x2 σ=Ls k x0 x1 x2 σ:=by
 cases k with
 | zero=>simp only[C3,Ab]; rfl
 | succ k=>rw[Qk,Ot,Ls]; simp only[S7,Bj,Bd,Bm,Bk,Bl,Bo,Bn,Bi,Bp,As,AG,Bq,Al,Aw,Av,Ap]
noncomputable def Gc (k n:Nat) (p0:Option Addr) (h1:Nat) (x4:Int) (σ:Aa):Option Ax:=match n with
 | 0=>none
 | n+1=>(fP p0 fun p0=>fN h1 fun h1=>fI x4 fun x4=>fL σ fun σ=>p0.bind fun a3=>(J4 σ a3.block (a3.off+0)).bind fun p4=>(EA k p4 σ).bind fun r5=>(Bu .i64 r5.1).bind fun n6=>bif decide (x4<n6) then (p0.bind fun a7=>(J4 r5.2 a7.block (a7.off+0)).bind fun p8=>p0.bind fun a9=>(Ak .i64 r5.2 a9.block (a9.off+1)).bind fun n10=>(Ls k p8 x4 n10 r5.2).bind fun r11=>(Bu .i64 r11.1).bind fun n12=>bif n12 == (0:Int) then (VH r11.2 h1 0 [.int .i64 (Ae (x4*(64:Int))),.int .i64 (Ae ((Ae (x4+(1:Int)))*(64:Int)))] fun s13=>some (.ret,[.bool true],s13)) else (Gc k n p0 h1 (Ae (x4+(1:Int))) r11.2)) else (some (.exit 0,[],r5.2)))
termination_by structural n
theorem Rn (k n:Nat) (p0:Option Addr) (h1:Nat) (x4:Int) (σ:Aa):Cf k n p0 h1 x4 σ=Gc k n p0 h1 x4 σ:=by
 induction n generalizing p0 h1 x4 σ with
 | zero=>simp only[Cf,Ab]; rfl
 | succ n ih=>rw[Ha,FM,Gc]; simp only[Du,N2,ih,Bj,Bd,Bm,Bk,Bl,Bo,Bn,Bi,Bp,As,AG,Bq,Al,Aw,Av,Ap]
noncomputable def F9 (k:Nat) (x0:Option Addr) (σ:Aa):Option (Value × Aa):=match k with
 | 0=>none
 | k+1=>(fP x0 fun x0=>fL σ fun σ=>CV σ (.cells [.int .i64 (0:Int),.int .i64 (0:Int)] 120 true) fun h1 s2=>(Gc k k x0 h1 (1:Int) s2).bind fun r14=>if r14.1 = .exit 0 then (VH r14.2.2 h1 0 [.int .i64 (0:Int),.int .i64 (0:Int)] fun s15=>(((R5 s15 h1 0 2).bind fun v16=>some (.agg v16.toArray)).bind fun v17=>some [v17,.bool false]).bind fun vs18=>some (LV vs18,s15)) else if r14.1 = .ret then (jI r14.2.1 fun b19=>(((R5 r14.2.2 h1 0 2).bind fun v20=>some (.agg v20.toArray)).bind fun v21=>some [v21,.bool b19]).bind fun vs22=>some (LV vs22,r14.2.2)) else none)
theorem DX (k:Nat) (x0:Option Addr) (σ:Aa):B7 k x0 σ=F9 k x0 σ:=by
 cases k with
 | zero=>simp only[B7,Ab]; rfl
 | succ k=>rw[LJ,JC,F9]; simp only[Du,N2,Rn,Bj,Bd,Bm,Bk,Bl,Bo,Bn,Bi,Bp,As,AG,Bq,Al,Aw,Av,Ap]
noncomputable def FA (k:Nat) (x0:Option Addr) (x1:Option Addr × Nat × Nat) (σ:Aa):Option (Value × Aa):=match k with
 | 0=>none
 | k+1=>(fP x0 fun x0=>fS x1 fun x1=>fL σ fun σ=>bif decide (((x1.2.1:Nat):Int)>(0:Int)) then (if 0≤(0:Int)∧(0:Int)<(x1.2.1:Nat) then x1.1.bind fun a1=>(Ak .i64 σ a1.block (a1.off+(0:Int).toNat*2+0)).bind fun n2=>fI n2 fun y3=>fB true fun y4=>some (.tuple #[.int .i64 y3,.bool y4],σ) else none) else ((F9 k x0 σ).bind fun r5=>(cj r5.1).bind fun q6=>if q6.length=2 then q6.head?.bind fun v7=>hU v7 fun n8 n9=>q6.tail.head?.bind fun v10=>(CT v10).bind fun b11=>CV r5.2 (.cells [.int .i64 (0:Int),.int .i64 (0:Int)] 120 true) fun h12 s13=>VH s13 h12 0 [.int .i64 n8,.int .i64 n9] fun s14=>(Ak .i64 s14 h12 (0+0)).bind fun n15=>fI n15 fun y16=>fB b11 fun y17=>some (.tuple #[.int .i64 y16,.bool y17],s14) else none))
theorem Jk (k:Nat) (x0:Option Addr) (x1:Option Addr × Nat × Nat) (σ:Aa):Bc k x0 x1 σ=FA k x0 x1 σ:=by
 cases k with
 | zero=>simp only[Bc,Ab]; rfl
 | succ k=>rw[LL,JE,FA]; simp only[DX,Bj,Bd,Bm,Bk,Bl,Bo,Bn,Bi,Bp,As,AG,Bq,Al,Aw,Av,Ap]
noncomputable def Jg (k n:Nat) (p0:Option Addr) (i1:Int) (x8:Int) (σ:Aa):Option Ax:=match n with
 | 0=>none
 | n+1=>(fP p0 fun p0=>fI i1 fun i1=>fI x8 fun x8=>fL σ fun σ=>p0.bind fun a5=>(Ak .i64 σ a5.block (a5.off+0)).bind fun n6=>bif decide (x8<n6) then ((Kb k p0 x8 σ).bind fun r7=>(Bu .i64 r7.1).bind fun n8=>bif n8 == i1 then (some (.ret,[.int .i64 x8,.int .i64 (0:Int)],r7.2)) else (Jg k n p0 i1 (Ae (x8+(1:Int))) r7.2)) else (some (.exit 0,[],σ)))
termination_by structural n
theorem Wz (k n:Nat) (p0:Option Addr) (i1:Int) (x8:Int) (σ:Aa):DC k n p0 i1 x8 σ=Jg k n p0 i1 x8 σ:=by
 induction n generalizing p0 i1 x8 σ with
 | zero=>simp only[DC,Ab]; rfl
 | succ n ih=>rw[Oa,LD,Jg]; simp only[GP,Ji,ih,Bj,Bd,Bm,Bk,Bl,Bo,Bn,Bi,Bp,As,AG,Bq,Al,Aw,Av,Ap]
noncomputable def Lx (k:Nat) (x0:Option Addr) (x1:Int) (x2:Int) (σ:Aa):Option (Value × Aa):=match k with
 | 0=>none
 | k+1=>(fP x0 fun x0=>fI x1 fun x1=>fI x2 fun x2=>fL σ fun σ=>(Hn k x0 σ).bind fun r1=>(CT r1.1).bind fun b2=>bif !b2 then (fI (0:Int) fun y3=>fI (5:Int) fun y4=>some (.tuple #[.int .i64 y3,.int .i64 y4],r1.2)) else ((Jg k k x0 x2 (if (0:Int)>x1 then (0:Int) else x1) r1.2).bind fun r9=>if r9.1 = .exit 0 then (fI (0:Int) fun y10=>fI (4:Int) fun y11=>some (.tuple #[.int .i64 y10,.int .i64 y11],r9.2.2)) else if r9.1 = .ret then (SP r9.2.1 fun n12 n13=>fI n12 fun y14=>fI n13 fun y15=>some (.tuple #[.int .i64 y14,.int .i64 y15],r9.2.2)) else none))
theorem SJ (k:Nat) (x0:Option Addr) (x1:Int) (x2:Int) (σ:Aa):Db k x0 x1 x2 σ=Lx k x0 x1 x2 σ:=by
 cases k with
 | zero=>simp only[Db,Ab]; rfl
 | succ k=>rw[Qt,O5,Lx]; simp only[GP,Ji,Wz,Bj,Bd,Bm,Bk,Bl,Bo,Bn,Bi,Bp,As,AG,Bq,Al,Aw,Av,Ap]
noncomputable def HH (k n:Nat) (p0:Option Addr) (i1:Int) (x7:Option Addr × Nat × Nat) (x8:Int) (x9:Int) (σ:Aa):Option Ax:=match n with
 | 0=>none
 | n+1=>(fP p0 fun p0=>fI i1 fun i1=>fS x7 fun x7=>fI x8 fun x8=>fI x9 fun x9=>fL σ fun σ=>(bif x9 == (0:Int) then some (decide ((Ae ((2:Int)*x8))<i1),σ) else some (false,σ)).bind fun r6=>bif r6.1 then (CV r6.2 (.cells [.int .i64 (Ae ((2:Int)*x8))] 3 true) fun h7 s8=>(Be P 3 (x7.1,x7.2.1,x7.2.2) (some ⟨h7,0,none⟩,1,1) s8).bind fun r9=>fR r9 fun r9=>p0.bind fun a10=>(J4 r9.2 a10.block (a10.off+2)).bind fun p11=>(Lx k p11 (Ae (x8+(1:Int))) (1:Int) r9.2).bind fun r12=>EL r12.1 fun n13 n14=>HH k n p0 i1 (r9.1.1,r9.1.2.1,r9.1.2.2) n13 n14 r12.2) else (some (.exit 0,[.slice x7.1 x7.2.1 x7.2.2],r6.2)))
termination_by structural n
theorem U2 (k n:Nat) (p0:Option Addr) (i1:Int) (x7:Option Addr × Nat × Nat) (x8:Int) (x9:Int) (σ:Aa):Cd k n p0 i1 x7 x8 x9 σ=HH k n p0 i1 x7 x8 x9 σ:=by
 induction n generalizing p0 i1 x7 x8 x9 σ with
 | zero=>simp only[Cd,Ab]; rfl
 | succ n ih=>rw[G0,FN,HH]; simp only[SJ,ih,Bj,Bd,Bm,Bk,Bl,Bo,Bn,Bi,Bp,As,AG,Bq,Al,Aw,Av,Ap]
noncomputable def MK (k:Nat) (x0:Option Addr) (x1:Int) (x2:Int) (σ:Aa):Option (Value × Aa):=match k with
 | 0=>none
 | k+1=>(fP x0 fun x0=>fI x1 fun x1=>fI x2 fun x2=>fL σ fun σ=>x0.bind fun a1=>(J4 σ a1.block (a1.off+2)).bind fun p2=>if (2:Int)=0 then none else (Lx k p2 (Ae (x1.tdiv (2:Int))) (1:Int) σ).bind fun r3=>EL r3.1 fun n4 n5=>(HH k k x0 x2 (none,0,0) n4 n5 r3.2).bind fun r15=>if r15.1 = .exit 0 then (dO r15.2.1 fun l16=>some (.slice l16.1 l16.2.1 l16.2.2,r15.2.2)) else none)
theorem Xr (k:Nat) (x0:Option Addr) (x1:Int) (x2:Int) (σ:Aa):Ds k x0 x1 x2 σ=MK k x0 x1 x2 σ:=by
 cases k with
 | zero=>simp only[Ds,Ab]; rfl
 | succ k=>rw[OD,M8,MK]; simp only[SJ,U2,Bj,Bd,Bm,Bk,Bl,Bo,Bn,Bi,Bp,As,AG,Bq,Al,Aw,Av,Ap]
noncomputable def J7 (k:Nat) (x0:Option Addr) (x1:Int) (σ:Aa):Option (Value × Aa):=match k with
 | 0=>none
 | k+1=>(fP x0 fun x0=>fI x1 fun x1=>fL σ fun σ=>(Eh k x0 σ).bind fun r1=>(CT r1.1).bind fun b2=>(bif !b2 then some (true,r1.2) else some (decide (x1<(0:Int)),r1.2)).bind fun r3=>(bif r3.1 then some (true,r3.2) else x0.bind fun a4=>(Cr r3.2 a4.block (a4.off+0)).bind fun l5=>some (decide (x1≥((l5.2.1:Nat):Int)),r3.2)).bind fun r6=>bif r6.1 then (some (.slice none 0 0,r6.2)) else ((MK k x0 (Ae (x1*(64:Int))) (Ae ((Ae (x1+(1:Int)))*(64:Int))) r6.2).bind fun r7=>(Gp r7.1).bind fun l8=>some (.slice l8.1 l8.2.1 l8.2.2,r7.2)))
theorem He (k:Nat) (x0:Option Addr) (x1:Int) (σ:Aa):B4 k x0 x1 σ=J7 k x0 x1 σ:=by
 cases k with
 | zero=>simp only[B4,Ab]; rfl
 | succ k=>rw[Kz,Jz,J7]; simp only[Ex,Xr,Bj,Bd,Bm,Bk,Bl,Bo,Bn,Bi,Bp,As,AG,Bq,Al,Aw,Av,Ap]
noncomputable def Mq (k:Nat) (x0:Option Addr) (x1:Int) (σ:Aa):Option (Value × Aa):=match k with
 | 0=>none
 | k+1=>(fP x0 fun x0=>fI x1 fun x1=>fL σ fun σ=>(Lw k x0 x1 σ).bind fun r1=>(CT r1.1).bind fun b2=>(bif b2 then x0.bind fun a3=>(Cr r1.2 a3.block (a3.off+0)).bind fun l4=>if 0≤x1∧x1<(l4.2.1:Nat) then l4.1.bind fun a5=>(Ak .i64 r1.2 a5.block (a5.off+x1.toNat*2+0)).bind fun n6=>some (n6 == (1:Int),r1.2) else none else some (false,r1.2)).bind fun r7=>fB r7.1 fun y8=>some (.bool y8,r7.2))
theorem IY (k:Nat) (x0:Option Addr) (x1:Int) (σ:Aa):Cl k x0 x1 σ=Mq k x0 x1 σ:=by
 cases k with
 | zero=>simp only[Cl,Ab]; rfl
 | succ k=>rw[MD,Mg,Mq]; simp only[N4,Bj,Bd,Bm,Bk,Bl,Bo,Bn,Bi,Bp,As,AG,Bq,Al,Aw,Av,Ap]
noncomputable def J5 (k:Nat) (x0:Int) (c0:Option Addr) (c1:Option Addr) (σ:Aa):Option (Value × Aa):=match k with
 | 0=>none
 | k+1=>(fI x0 fun x0=>fP c0 fun c0=>fP c1 fun c1=>fL σ fun σ=>c0.bind fun a1=>(Ak .i64 σ a1.block a1.off).bind fun n2=>(bif decide (x0>n2) then (c1.bind fun a3=>(Cr σ a3.block a3.off).bind fun l4=>c0.bind fun a5=>(Ak .i64 σ a5.block a5.off).bind fun n6=>c0.bind fun a7=>(Ak .i64 σ a7.block a7.off).bind fun n8=>CV σ (.cells [.int .i64 n6,.int .i64 (Ae (x0-n8))] 51 true) fun h9 s10=>(Be P 51 (l4.1,l4.2.1,l4.2.2) (some ⟨h9,0,none⟩,1,1) s10).bind fun r11=>fR r11 fun r11=>c1.bind fun a12=>Y1 r11.2 a12.block a12.off (.slice r11.1.1 r11.1.2.1 r11.1.2.2) fun s13=>some (.normal,[],s13)) else (some (.normal,[],σ)):Option Ax).bind fun r14=>if r14.1 = .normal then (some (.tuple #[],r14.2.2)) else none)
theorem Qw (k:Nat) (x0:Int) (c0:Option Addr) (c1:Option Addr) (σ:Aa):CO k x0 c0 c1 σ=J5 k x0 c0 c1 σ:=by
 cases k with
 | zero=>simp only[CO,Ab]; rfl
 | succ k=>rw[Kx,Jx,J5]; simp only[Bj,Bd,Bm,Bk,Bl,Bo,Bn,Bi,Bp,As,AG,Bq,Al,Aw,Av,Ap]
noncomputable def J6 (k n:Nat) (p0:Option Addr) (h1:Nat) (h2:Nat) (p3:Option Addr) (c4:Nat) (c5:Nat) (i6:Int) (x21:Int) (σ:Aa):Option Ax:=match n with
 | 0=>none
 | n+1=>(fP p0 fun p0=>fN h1 fun h1=>fN h2 fun h2=>fP p3 fun p3=>fN c4 fun c4=>fN c5 fun c5=>fI i6 fun i6=>fI x21 fun x21=>fL σ fun σ=>bif decide (x21<i6) then (if 0≤x21∧x21<(c4:Nat) then p3.bind fun a10=>(Ak .i64 σ a10.block (a10.off+x21.toNat*1)).bind fun n11=>(J5 k n11 (some ⟨h1,0,none⟩) (some ⟨h2,0,none⟩) σ).bind fun r12=>W9 r12.1 ((HS k p0 n11 r12.2).bind fun r13=>(Bu .i64 r13.1).bind fun n14=>Y1 r13.2 h1 0 (.int .i64 (Ae (n11+n14))) fun s15=>J6 k n p0 h1 h2 p3 c4 c5 i6 (Ae (x21+(1:Int))) s15) else none) else (some (.exit 0,[],σ)))
termination_by structural n
theorem Xq (k n:Nat) (p0:Option Addr) (h1:Nat) (h2:Nat) (p3:Option Addr) (c4:Nat) (c5:Nat) (i6:Int) (x21:Int) (σ:Aa):Dr k n p0 h1 h2 p3 c4 c5 i6 x21 σ=J6 k n p0 h1 h2 p3 c4 c5 i6 x21 σ:=by
 induction n generalizing p0 h1 h2 p3 c4 c5 i6 x21 σ with
 | zero=>simp only[Dr,Ab]; rfl
 | succ n ih=>rw[Ky,Jy,J6]; simp only[He,IY,Gb,Qw,ih,Bj,Bd,Bm,Bk,Bl,Bo,Bn,Bi,Bp,As,AG,Bq,Al,Aw,Av,Ap]
noncomputable def PJ (k:Nat) (x0:Option Addr) (x1:Int) (σ:Aa):Option (Value × Aa):=match k with
 | 0=>none
 | k+1=>(fP x0 fun x0=>fI x1 fun x1=>fL σ fun σ=>(Mq k x0 x1 σ).bind fun r1=>(CT r1.1).bind fun b2=>bif !b2 then (some (.slice none 0 0,r1.2)) else (CV r1.2 (.cells [.slice none 0 0] 46 true) fun h3 s4=>CV s4 (.cells [.int .i64 (0:Int)] 3 true) fun h5 s6=>Y1 s6 h5 0 (.int .i64 (Ae (x1*(64:Int)))) fun s7=>(J7 k x0 x1 s7).bind fun r8=>(Gp r8.1).bind fun l9=>(J6 k k x0 h5 h3 l9.1 l9.2.1 l9.2.2 ((l9.2.1:Nat):Int) (0:Int) r8.2).bind fun r16=>if r16.1 = .exit 0 then ((J5 k (Ae ((Ae (x1+(1:Int)))*(64:Int))) (some ⟨h5,0,none⟩) (some ⟨h3,0,none⟩) r16.2.2).bind fun r17=>W9 r17.1 ((Cr r17.2 h3 0).bind fun l18=>some (.slice l18.1 l18.2.1 l18.2.2,r17.2))) else none))
theorem OM (k:Nat) (x0:Option Addr) (x1:Int) (σ:Aa):Ec k x0 x1 σ=PJ k x0 x1 σ:=by
 cases k with
 | zero=>simp only[Ec,Ab]; rfl
 | succ k=>rw[J3,JF,PJ]; simp only[He,IY,Gb,Qw,Xq,Bj,Bd,Bm,Bk,Bl,Bo,Bn,Bi,Bp,As,AG,Bq,Al,Aw,Av,Ap]
noncomputable def OU (k:Nat) (x0:Option Addr) (x1:Int) (σ:Aa):Option (Value × Aa):=match k with
 | 0=>none
 | k+1=>(fP x0 fun x0=>fI x1 fun x1=>fL σ fun σ=>(bif decide (x1<(0:Int)) then some (true,σ) else (EA k x0 σ).bind fun r1=>(Bu .i64 r1.1).bind fun n2=>some (decide (x1≥n2),r1.2)).bind fun r3=>bif r3.1 then (fI (-1:Int) fun y4=>some (.int .i64 y4,r3.2)) else (x0.bind fun a5=>(Cr r3.2 a5.block (a5.off+0)).bind fun l6=>if 0≤x1∧x1<(l6.2.1:Nat) then l6.1.bind fun a7=>(Ak .i64 r3.2 a7.block (a7.off+x1.toNat*2+0)).bind fun n8=>fI n8 fun y9=>some (.int .i64 y9,r3.2) else none))
theorem S6 (k:Nat) (x0:Option Addr) (x1:Int) (σ:Aa):C5 k x0 x1 σ=OU k x0 x1 σ:=by
 cases k with
 | zero=>simp only[C5,Ab]; rfl
 | succ k=>rw[LM,Ln,OU]; simp only[Du,Bj,Bd,Bm,Bk,Bl,Bo,Bn,Bi,Bp,As,AG,Bq,Al,Aw,Av,Ap]
noncomputable def FE (k n:Nat) (p0:Option Addr) (i1:Int) (x3:Option Addr × Nat × Nat) (x10:Int) (σ:Aa):Option Ax:=match n with
 | 0=>none
 | n+1=>(fP p0 fun p0=>fI i1 fun i1=>fS x3 fun x3=>fI x10 fun x10=>fL σ fun σ=>bif decide (x10<i1) then (p0.bind fun a5=>(J4 σ a5.block (a5.off+0)).bind fun p6=>(OU k p6 x10 σ).bind fun r7=>(Bu .i64 r7.1).bind fun n8=>(bif n8 == (1:Int) then p0.bind fun a9=>(J4 r7.2 a9.block (a9.off+0)).bind fun p10=>(Lu k p10 x10 r7.2).bind fun r11=>(Bu .i64 r11.1).bind fun n12=>p0.bind fun a13=>(Ak .i64 r11.2 a13.block (a13.off+1)).bind fun n14=>some (n12 == n14,r11.2) else some (false,r7.2)).bind fun r15=>(bif r15.1 then (CV r15.2 (.cells [.int .i64 x10] 3 true) fun h16 s17=>(Be P 3 (x3.1,x3.2.1,x3.2.2) (some ⟨h16,0,none⟩,1,1) s17).bind fun r18=>fR r18 fun r18=>some (.normal,[.slice r18.1.1 r18.1.2.1 r18.1.2.2],r18.2)) else (some (.normal,[.slice x3.1 x3.2.1 x3.2.2],r15.2)):Option Ax).bind fun r19=>if r19.1 = .normal then (dO r19.2.1 fun l20=>FE k n p0 i1 (l20.1,l20.2.1,l20.2.2) (Ae (x10+(1:Int))) r19.2.2) else none) else (some (.exit 0,[.slice x3.1 x3.2.1 x3.2.2],σ)))
termination_by structural n
theorem Q9 (k n:Nat) (p0:Option Addr) (i1:Int) (x3:Option Addr × Nat × Nat) (x10:Int) (σ:Aa):B9 k n p0 i1 x3 x10 σ=FE k n p0 i1 x3 x10 σ:=by
 induction n generalizing p0 i1 x3 x10 σ with
 | zero=>simp only[B9,Ab]; rfl
 | succ n ih=>rw[G9,FC,FE]; simp only[Du,S6,N3,ih,Bj,Bd,Bm,Bk,Bl,Bo,Bn,Bi,Bp,As,AG,Bq,Al,Aw,Av,Ap]
noncomputable def GX (k:Nat) (x0:Option Addr) (σ:Aa):Option (Value × Aa):=match k with
 | 0=>none
 | k+1=>(fP x0 fun x0=>fL σ fun σ=>x0.bind fun a1=>(J4 σ a1.block (a1.off+0)).bind fun p2=>(EA k p2 σ).bind fun r3=>(Bu .i64 r3.1).bind fun n4=>(FE k k x0 n4 (none,0,0) (0:Int) r3.2).bind fun r21=>if r21.1 = .exit 0 then (dO r21.2.1 fun l22=>some (.slice l22.1 l22.2.1 l22.2.2,r21.2.2)) else none)
theorem CQ (k:Nat) (x0:Option Addr) (σ:Aa):Bx k x0 σ=GX k x0 σ:=by
 cases k with
 | zero=>simp only[Bx,Ab]; rfl
 | succ k=>rw[Lo,Jl,GX]; simp only[Du,S6,N3,Q9,Bj,Bd,Bm,Bk,Bl,Bo,Bn,Bi,Bp,As,AG,Bq,Al,Aw,Av,Ap]
noncomputable def G2 (k n:Nat) (i0:Int) (i1:Int) (p2:Option Addr) (c3:Nat) (c4:Nat) (i5:Int) (x7:Option Addr × Nat × Nat) (x27:Int) (σ:Aa):Option Ax:=match n with
 | 0=>none
 | n+1=>(fI i0 fun i0=>fI i1 fun i1=>fP p2 fun p2=>fN c3 fun c3=>fN c4 fun c4=>fI i5 fun i5=>fS x7 fun x7=>fI x27 fun x27=>fL σ fun σ=>bif decide (x27<i5) then (if 0≤x27∧x27<(c3:Nat) then p2.bind fun a9=>(Ak .i64 σ a9.block (a9.off+x27.toNat*2)).bind fun n10=>(Ak .i64 σ a9.block (a9.off+x27.toNat*2+1)).bind fun n11=>CV σ (.cells [.int .i64 (0:Int),.int .i64 (0:Int)] 51 true) fun h12 s13=>VH s13 h12 0 [.int .i64 n10,.int .i64 n11] fun s14=>(Ak .i64 s14 h12 (0+0)).bind fun n15=>(bif decide ((Ae (i0-n15))>(0:Int)) then ((Ak .i64 s14 h12 (0+1)).bind fun n16=>Y1 s14 h12 (0+0) (.int .i64 i0) fun s17=>Y1 s17 h12 (0+1) (.int .i64 (Ae (n16-(Ae (i0-n15))))) fun s18=>some (.normal,[],s18)) else (some (.normal,[],s14)):Option Ax).bind fun r19=>if r19.1 = .normal then ((Ak .i64 r19.2.2 h12 (0+1)).bind fun n20=>(bif decide (n20≥i1) then ((Ak .i64 r19.2.2 h12 0).bind fun n21=>(Ak .i64 r19.2.2 h12 (0+1)).bind fun n22=>CV r19.2.2 (.cells [.int .i64 n21,.int .i64 n22] 51 true) fun h23 s24=>(Be P 51 (x7.1,x7.2.1,x7.2.2) (some ⟨h23,0,none⟩,1,1) s24).bind fun r25=>fR r25 fun r25=>some (.normal,[.slice r25.1.1 r25.1.2.1 r25.1.2.2],r25.2)) else (some (.normal,[.slice x7.1 x7.2.1 x7.2.2],r19.2.2)):Option Ax).bind fun r26=>if r26.1 = .normal then (dO r26.2.1 fun l27=>G2 k n i0 i1 p2 c3 c4 i5 (l27.1,l27.2.1,l27.2.2) (Ae (x27+(1:Int))) r26.2.2) else none) else none else none) else (some (.exit 2,[.slice x7.1 x7.2.1 x7.2.2],σ)))
termination_by structural n
theorem L5 (k n:Nat) (i0:Int) (i1:Int) (p2:Option Addr) (c3:Nat) (c4:Nat) (i5:Int) (x7:Option Addr × Nat × Nat) (x27:Int) (σ:Aa):BW k n i0 i1 p2 c3 c4 i5 x7 x27 σ=G2 k n i0 i1 p2 c3 c4 i5 x7 x27 σ:=by
 induction n generalizing i0 i1 p2 c3 c4 i5 x7 x27 σ with
 | zero=>simp only[BW,Ab]; rfl
 | succ n ih=>rw[Hr,Gw,G2]; simp only[OM,CQ,ih,Bj,Bd,Bm,Bk,Bl,Bo,Bn,Bi,Bp,As,AG,Bq,Al,Aw,Av,Ap]
noncomputable def G1 (k n:Nat) (p0:Option Addr) (i1:Int) (i2:Int) (p3:Option Addr) (c4:Nat) (c5:Nat) (i6:Int) (x7:Option Addr × Nat × Nat) (x16:Int) (σ:Aa):Option Ax:=match n with
 | 0=>none
 | n+1=>(fP p0 fun p0=>fI i1 fun i1=>fI i2 fun i2=>fP p3 fun p3=>fN c4 fun c4=>fN c5 fun c5=>fI i6 fun i6=>fS x7 fun x7=>fI x16 fun x16=>fL σ fun σ=>bif decide (x16<i6) then (if 0≤x16∧x16<(c4:Nat) then p3.bind fun a3=>(Ak .i64 σ a3.block (a3.off+x16.toNat*1)).bind fun n4=>p0.bind fun a5=>(J4 σ a5.block (a5.off+0)).bind fun p6=>(PJ k p6 n4 σ).bind fun r7=>(Gp r7.1).bind fun l8=>(G2 k k i1 i2 l8.1 l8.2.1 l8.2.2 ((l8.2.1:Nat):Int) (x7.1,x7.2.1,x7.2.2) (0:Int) r7.2).bind fun r28=>if r28.1 = .exit 2 then (dO r28.2.1 fun l29=>G1 k n p0 i1 i2 p3 c4 c5 i6 (l29.1,l29.2.1,l29.2.2) (Ae (x16+(1:Int))) r28.2.2) else none else none) else (some (.exit 0,[.slice x7.1 x7.2.1 x7.2.2],σ)))
termination_by structural n
theorem RC (k n:Nat) (p0:Option Addr) (i1:Int) (i2:Int) (p3:Option Addr) (c4:Nat) (c5:Nat) (i6:Int) (x7:Option Addr × Nat × Nat) (x16:Int) (σ:Aa):BV k n p0 i1 i2 p3 c4 c5 i6 x7 x16 σ=G1 k n p0 i1 i2 p3 c4 c5 i6 x7 x16 σ:=by
 induction n generalizing p0 i1 i2 p3 c4 c5 i6 x7 x16 σ with
 | zero=>simp only[BV,Ab]; rfl
 | succ n ih=>rw[Hq,Gv,G1]; simp only[OM,CQ,L5,ih,Bj,Bd,Bm,Bk,Bl,Bo,Bn,Bi,Bp,As,AG,Bq,Al,Aw,Av,Ap]
noncomputable def EH (k:Nat) (x0:Option Addr) (x1:Int) (x2:Int) (σ:Aa):Option (Value × Aa):=match k with
 | 0=>none
 | k+1=>(fP x0 fun x0=>fI x1 fun x1=>fI x2 fun x2=>fL σ fun σ=>(GX k x0 σ).bind fun r1=>(Gp r1.1).bind fun l2=>(G1 k k x0 x1 x2 l2.1 l2.2.1 l2.2.2 ((l2.2.1:Nat):Int) (none,0,0) (0:Int) r1.2).bind fun r30=>if r30.1 = .exit 0 then (dO r30.2.1 fun l31=>some (.slice l31.1 l31.2.1 l31.2.2,r30.2.2)) else none)
theorem JA (k:Nat) (x0:Option Addr) (x1:Int) (x2:Int) (σ:Aa):AZ k x0 x1 x2 σ=EH k x0 x1 x2 σ:=by
 cases k with
 | zero=>simp only[AZ,Ab]; rfl
 | succ k=>rw[Mv,Kq,EH]; simp only[OM,CQ,L5,RC,Bj,Bd,Bm,Bk,Bl,Bo,Bn,Bi,Bp,As,AG,Bq,Al,Aw,Av,Ap]
noncomputable def MI (k:Nat) (x1:Option Addr) (x2:Int) (σ:Aa):Option (Value × Aa):=match k with
 | 0=>none
 | k+1=>(fP x1 fun x1=>fI x2 fun x2=>fL σ fun σ=>CV σ (.cells [] 150 true) fun h1 s2=>(EH k x1 (0:Int) x2 s2).bind fun r3=>(Gp r3.1).bind fun l4=>(FA k x1 (l4.1,l4.2.1,l4.2.2) r3.2).bind fun r5=>Zt r5.1 fun n6 b7=>fI n6 fun y8=>fB b7 fun y9=>some (.tuple #[.int .i64 y8,.bool y9],r5.2))
theorem WJ (k:Nat) (x1:Option Addr) (x2:Int) (σ:Aa):Dp k x1 x2 σ=MI k x1 x2 σ:=by
 cases k with
 | zero=>simp only[Dp,Ab]; rfl
 | succ k=>rw[OA,M5,MI]; simp only[Jk,JA,Bj,Bd,Bm,Bk,Bl,Bo,Bn,Bi,Bp,As,AG,Bq,Al,Aw,Av,Ap]
theorem Wa (k:Nat) (x1:Option Addr) (x2:Int) (σ:Aa):fn P (XK Kn.b) H k 199 [.agg #[],.pointer x1,.int .i64 x2] σ=Dp k x1 x2 σ:=by
 simp only[Dp,Ab]
noncomputable def Lj (k:Nat) (x0_0:Int) (x0_1:Int) (x1_0:Int) (x1_1:Int) (σ:Aa):Option (Value × Aa):=match k with
 | 0=>none
 | k+1=>(fI x0_0 fun x0_0=>fI x0_1 fun x0_1=>fI x1_0 fun x1_0=>fI x1_1 fun x1_1=>fL σ fun σ=>CV σ (.cells [.int .i64 x0_0,.int .i64 x0_1] 51 true) fun h1 s2=>CV s2 (.cells [.int .i64 x1_0,.int .i64 x1_1] 51 true) fun h3 s4=>(Ak .i64 s4 h1 (0+1)).bind fun n5=>(Ak .i64 s4 h3 (0+1)).bind fun n6=>fI (Ae (n5-n6)) fun y7=>some (.int .i64 y7,s4))
theorem UU (k:Nat) (x0_0:Int) (x0_1:Int) (x1_0:Int) (x1_1:Int) (σ:Aa):Dm k x0_0 x0_1 x1_0 x1_1 σ=Lj k x0_0 x0_1 x1_0 x1_1 σ:=by
 cases k with
 | zero=>simp only[Dm,Ab]; rfl
 | succ k=>rw[MS,KX,Lj]; simp only[Bj,Bd,Bm,Bk,Bl,Bo,Bn,Bi,Bp,As,AG,Bq,Al,Aw,Av,Ap]
theorem Ug (k:Nat) (x0_0:Int) (x0_1:Int) (x1_0:Int) (x1_1:Int) (σ:Aa):fn P (XK Kn.b) H k 206 [.agg #[.int .i64 x0_0,.int .i64 x0_1],.agg #[.int .i64 x1_0,.int .i64 x1_1]] σ=Dm k x0_0 x0_1 x1_0 x1_1 σ:=by
 simp only[Dm,Ab]
noncomputable def OS (k:Nat) (n:FuncId) (l:List Value) (σ:Aa):Option (Value × Aa):=
 if n=206 then (match l with
  | [.agg ⟨[.int .i64 y1,.int .i64 y2]⟩,.agg ⟨[.int .i64 y3,.int .i64 y4]⟩]=>Lj k y1 y2 y3 y4 σ
  | l=>fn P (XK Kn.b) H k 206 l σ) else
 fn P (XK Kn.b) H k n l σ
theorem dh (k:Nat) (n:FuncId) (l:List Value) (σ:Aa):fn P (XK Kn.b) H k n l σ=OS k n l σ:=by
 unfold OS
 split
 ·rename_i hn; subst hn
  split
  ·exact (Ug k _ _ _ _ σ).trans (UU k _ _ _ _ σ)
  ·rfl
 rfl
noncomputable def SH (k:Nat) (f:Value) (args:List Value) (σ:Aa):Option (Value × Aa):=match f with
 | .func (.func n) first cap=>OS k n (first.toList++args++cap.toList) σ
 | .func (.method nm) first _=>(match first.toList++args with
   | .iface t v::rest=>(Vt P t nm).bind fun n=>OS k n (v::rest) σ
   | _=>none)
 | _=>none
theorem QH (k:Nat) (f:Value) (args:List Value) (σ:Aa):Dx k f args σ=SH k f args σ:=by
 simp only[Dx,Ab]
 unfold PW SH
 simp only[dh]
 rfl
noncomputable def CJ (k n:Nat) (p0:Option Addr) (c1:Nat) (c2:Nat) (i3:Int) (v4:Value) (x9:Int) (σ:Aa):Option Ax:=match n with
 | 0=>none
 | n+1=>(fP p0 fun p0=>fN c1 fun c1=>fN c2 fun c2=>fI i3 fun i3=>fI x9 fun x9=>fL σ fun σ=>(bif decide (x9>i3) then if 0≤x9∧x9<(c1:Nat) then p0.bind fun a1=>(Ak .i64 σ a1.block (a1.off+x9.toNat*2)).bind fun n2=>(Ak .i64 σ a1.block (a1.off+x9.toNat*2+1)).bind fun n3=>if 0≤(Ae (x9-(1:Int)))∧(Ae (x9-(1:Int)))<(c1:Nat) then p0.bind fun a4=>(Ak .i64 σ a4.block (a4.off+(Ae (x9-(1:Int))).toNat*2)).bind fun n5=>(Ak .i64 σ a4.block (a4.off+(Ae (x9-(1:Int))).toNat*2+1)).bind fun n6=>(SH k v4 [.agg #[.int .i64 n2,.int .i64 n3],.agg #[.int .i64 n5,.int .i64 n6]] σ).bind fun r7=>(Bu .i64 r7.1).bind fun n8=>some (decide (n8<(0:Int)),r7.2) else none else none else some (false,σ)).bind fun r9=>bif r9.1 then (if 0≤(Ae (x9-(1:Int)))∧(Ae (x9-(1:Int)))<(c1:Nat) then p0.bind fun a10=>(Ak .i64 r9.2 a10.block (a10.off+(Ae (x9-(1:Int))).toNat*2)).bind fun n11=>(Ak .i64 r9.2 a10.block (a10.off+(Ae (x9-(1:Int))).toNat*2+1)).bind fun n12=>if 0≤x9∧x9<(c1:Nat) then p0.bind fun a13=>(Ak .i64 r9.2 a13.block (a13.off+x9.toNat*2)).bind fun n14=>(Ak .i64 r9.2 a13.block (a13.off+x9.toNat*2+1)).bind fun n15=>if 0≤x9∧x9<(c1:Nat) then p0.bind fun a16=>VH r9.2 a16.block (a16.off+x9.toNat*2) [.int .i64 n11,.int .i64 n12] fun s17=>if 0≤(Ae (x9-(1:Int)))∧(Ae (x9-(1:Int)))<(c1:Nat) then p0.bind fun a18=>VH s17 a18.block (a18.off+(Ae (x9-(1:Int))).toNat*2) [.int .i64 n14,.int .i64 n15] fun s19=>CJ k n p0 c1 c2 i3 v4 (Ae (x9-(1:Int))) s19 else none else none else none else none) else (some (.exit 2,[],r9.2)))
termination_by structural n
theorem Gs (k n:Nat) (p0:Option Addr) (c1:Nat) (c2:Nat) (i3:Int) (v4:Value) (x9:Int) (σ:Aa):AU k n p0 c1 c2 i3 v4 x9 σ=CJ k n p0 c1 c2 i3 v4 x9 σ:=by
 induction n generalizing p0 c1 c2 i3 v4 x9 σ with
 | zero=>simp only[AU,Ab]; rfl
 | succ n ih=>rw[D5,CF,CJ]; simp only[QH,ih,Bj,Bd,Bm,Bk,Bl,Bo,Bn,Bi,Bp,As,AG,Bq,Al,Aw,Av,Ap]
noncomputable def CI (k n:Nat) (p0:Option Addr) (c1:Nat) (c2:Nat) (i3:Int) (i4:Int) (v5:Value) (x8:Int) (σ:Aa):Option Ax:=match n with
 | 0=>none
 | n+1=>(fP p0 fun p0=>fN c1 fun c1=>fN c2 fun c2=>fI i3 fun i3=>fI i4 fun i4=>fI x8 fun x8=>fL σ fun σ=>bif decide (x8<i4) then ((CJ k k p0 c1 c2 i3 v5 x8 σ).bind fun r20=>if r20.1 = .exit 2 then (CI k n p0 c1 c2 i3 i4 v5 (Ae (x8+(1:Int))) r20.2.2) else none) else (some (.exit 0,[],σ)))
termination_by structural n
theorem KP (k n:Nat) (p0:Option Addr) (c1:Nat) (c2:Nat) (i3:Int) (i4:Int) (v5:Value) (x8:Int) (σ:Aa):AR k n p0 c1 c2 i3 i4 v5 x8 σ=CI k n p0 c1 c2 i3 i4 v5 x8 σ:=by
 induction n generalizing p0 c1 c2 i3 i4 v5 x8 σ with
 | zero=>simp only[AR,Ab]; rfl
 | succ n ih=>rw[D4,CE,CI]; simp only[QH,Gs,ih,Bj,Bd,Bm,Bk,Bl,Bo,Bn,Bi,Bp,As,AG,Bq,Al,Aw,Av,Ap]
noncomputable def Dk (k:Nat) (x0:Option Addr × Nat × Nat) (x1:Int) (x2:Int) (x3:Value) (σ:Aa):Option (Value × Aa):=match k with
 | 0=>none
 | k+1=>(fS x0 fun x0=>fI x1 fun x1=>fI x2 fun x2=>fL σ fun σ=>(CI k k x0.1 x0.2.1 x0.2.2 x1 x2 x3 (Ae (x1+(1:Int))) σ).bind fun r21=>if r21.1 = .exit 0 then (some (.tuple #[],r21.2.2)) else none)
theorem De (k:Nat) (x0:Option Addr × Nat × Nat) (x1:Int) (x2:Int) (x3:Value) (σ:Aa):AK k x0 x1 x2 x3 σ=Dk k x0 x1 x2 x3 σ:=by
 cases k with
 | zero=>simp only[AK,Ab]; rfl
 | succ k=>rw[Es,Dg,Dk]; simp only[QH,Gs,KP,Bj,Bd,Bm,Bk,Bl,Bo,Bn,Bi,Bp,As,AG,Bq,Al,Aw,Av,Ap]
noncomputable def Gf (k:Nat) (x0:Option Addr × Nat × Nat) (x1:Int) (x2:Int) (x3:Int) (x4:Value) (σ:Aa):Option (Value × Aa):=A9 k x0 x1 x2 x3 x4 σ
theorem DW (k:Nat) (x0:Option Addr × Nat × Nat) (x1:Int) (x2:Int) (x3:Int) (x4:Value) (σ:Aa):A9 k x0 x1 x2 x3 x4 σ=Gf k x0 x1 x2 x3 x4 σ:=rfl
noncomputable def DT (k n:Nat) (p0:Option Addr) (c1:Nat) (c2:Nat) (i3:Int) (v4:Value) (x7:Int) (x8:Int) (σ:Aa):Option Ax:=match n with
 | 0=>none
 | n+1=>(fP p0 fun p0=>fN c1 fun c1=>fN c2 fun c2=>fI i3 fun i3=>fI x7 fun x7=>fI x8 fun x8=>fL σ fun σ=>bif decide (x8≤i3) then ((Dk k (p0,c1,c2) x7 x8 (v4) σ).bind fun r1=>W9 r1.1 (DT k n p0 c1 c2 i3 v4 x8 (Ae (x8+(20:Int))) r1.2)) else (some (.exit 0,[.int .i64 x7],σ)))
termination_by structural n
theorem Fx (k n:Nat) (p0:Option Addr) (c1:Nat) (c2:Nat) (i3:Int) (v4:Value) (x7:Int) (x8:Int) (σ:Aa):Bf k n p0 c1 c2 i3 v4 x7 x8 σ=DT k n p0 c1 c2 i3 v4 x7 x8 σ:=by
 induction n generalizing p0 c1 c2 i3 v4 x7 x8 σ with
 | zero=>simp only[Bf,Ab]; rfl
 | succ n ih=>rw[ER,DR,DT]; simp only[De,DW,ih,Bj,Bd,Bm,Bk,Bl,Bo,Bn,Bi,Bp,As,AG,Bq,Al,Aw,Av,Ap]
noncomputable def DV (k n:Nat) (p0:Option Addr) (c1:Nat) (c2:Nat) (i3:Int) (v4:Value) (i5:Int) (x7:Int) (x8:Int) (σ:Aa):Option Ax:=match n with
 | 0=>none
 | n+1=>(fP p0 fun p0=>fN c1 fun c1=>fN c2 fun c2=>fI i3 fun i3=>fI i5 fun i5=>fI x7 fun x7=>fI x8 fun x8=>fL σ fun σ=>bif decide (x8≤i3) then ((Gf k (p0,c1,c2) x7 (Ae (x7+i5)) x8 (v4) σ).bind fun r5=>W9 r5.1 (DV k n p0 c1 c2 i3 v4 i5 x8 (Ae (x8+(Ae ((2:Int)*i5)))) r5.2)) else (some (.exit 4,[.int .i64 x7],σ)))
termination_by structural n
theorem Ih (k n:Nat) (p0:Option Addr) (c1:Nat) (c2:Nat) (i3:Int) (v4:Value) (i5:Int) (x7:Int) (x8:Int) (σ:Aa):Bv k n p0 c1 c2 i3 v4 i5 x7 x8 σ=DV k n p0 c1 c2 i3 v4 i5 x7 x8 σ:=by
 induction n generalizing p0 c1 c2 i3 v4 i5 x7 x8 σ with
 | zero=>simp only[Bv,Ab]; rfl
 | succ n ih=>rw[H7,FF,DV]; simp only[De,DW,Fx,ih,Bj,Bd,Bm,Bk,Bl,Bo,Bn,Bi,Bp,As,AG,Bq,Al,Aw,Av,Ap]
noncomputable def DU (k n:Nat) (p0:Option Addr) (c1:Nat) (c2:Nat) (i3:Int) (v4:Value) (x6:Int) (σ:Aa):Option Ax:=match n with
 | 0=>none
 | n+1=>(fP p0 fun p0=>fN c1 fun c1=>fN c2 fun c2=>fI i3 fun i3=>fI x6 fun x6=>fL σ fun σ=>bif decide (x6<i3) then ((DV k k p0 c1 c2 i3 v4 x6 (0:Int) (Ae ((2:Int)*x6)) σ).bind fun r6=>if r6.1 = .exit 4 then (UM r6.2.1 fun n7=>(bif decide ((Ae (n7+x6))<i3) then ((Gf k (p0,c1,c2) n7 (Ae (n7+x6)) i3 (v4) r6.2.2).bind fun r8=>W9 r8.1 (some (.normal,[],r8.2))) else (some (.normal,[],r6.2.2)):Option Ax).bind fun r9=>if r9.1 = .normal then (DU k n p0 c1 c2 i3 v4 (Ae (x6*(2:Int))) r9.2.2) else none) else none) else (some (.exit 2,[],σ)))
termination_by structural n
theorem NH (k n:Nat) (p0:Option Addr) (c1:Nat) (c2:Nat) (i3:Int) (v4:Value) (x6:Int) (σ:Aa):Bg k n p0 c1 c2 i3 v4 x6 σ=DU k n p0 c1 c2 i3 v4 x6 σ:=by
 induction n generalizing p0 c1 c2 i3 v4 x6 σ with
 | zero=>simp only[Bg,Ab]; rfl
 | succ n ih=>rw[ES,DS,DU]; simp only[De,DW,Fx,Ih,ih,Bj,Bd,Bm,Bk,Bl,Bo,Bn,Bi,Bp,As,AG,Bq,Al,Aw,Av,Ap]
noncomputable def GO (k:Nat) (x0:Option Addr × Nat × Nat) (x1:Int) (x2:Value) (σ:Aa):Option (Value × Aa):=match k with
 | 0=>none
 | k+1=>(fS x0 fun x0=>fI x1 fun x1=>fL σ fun σ=>(DT k k x0.1 x0.2.1 x0.2.2 x1 x2 (0:Int) (20:Int) σ).bind fun r2=>if r2.1 = .exit 0 then (UM r2.2.1 fun n3=>(Dk k (x0.1,x0.2.1,x0.2.2) n3 x1 (x2) r2.2.2).bind fun r4=>W9 r4.1 ((DU k k x0.1 x0.2.1 x0.2.2 x1 x2 (20:Int) r4.2).bind fun r10=>if r10.1 = .exit 2 then (some (.tuple #[],r10.2.2)) else none)) else none)
theorem Pa (k:Nat) (x0:Option Addr × Nat × Nat) (x1:Int) (x2:Value) (σ:Aa):C0 k x0 x1 x2 σ=GO k x0 x1 x2 σ:=by
 cases k with
 | zero=>simp only[C0,Ab]; rfl
 | succ k=>rw[FG,EC,GO]; simp only[De,DW,Fx,Ih,NH,Bj,Bd,Bm,Bk,Bl,Bo,Bn,Bi,Bp,As,AG,Bq,Al,Aw,Av,Ap]
noncomputable def Gu (k:Nat) (x0:Option Addr × Nat × Nat) (x1:Value) (σ:Aa):Option (Value × Aa):=match k with
 | 0=>none
 | k+1=>(fS x0 fun x0=>fL σ fun σ=>(GO k (x0.1,x0.2.1,x0.2.2) ((x0.2.1:Nat):Int) (x1) σ).bind fun r1=>W9 r1.1 (some (.tuple #[],r1.2)))
theorem OZ (k:Nat) (x0:Option Addr × Nat × Nat) (x1:Value) (σ:Aa):Bs k x0 x1 σ=Gu k x0 x1 σ:=by
 cases k with
 | zero=>simp only[Bs,Ab]; rfl
 | succ k=>rw[Fs,E6,Gu]; simp only[Pa,Bj,Bd,Bm,Bk,Bl,Bo,Bn,Bi,Bp,As,AG,Bq,Al,Aw,Av,Ap]
noncomputable def N8 (k:Nat) (x1:Option Addr) (x2:Int) (σ:Aa):Option (Value × Aa):=match k with
 | 0=>none
 | k+1=>(fP x1 fun x1=>fI x2 fun x2=>fL σ fun σ=>CV σ (.cells [] 151 true) fun h1 s2=>(EH k x1 (0:Int) x2 s2).bind fun r3=>(Gp r3.1).bind fun l4=>(Gu k (l4.1,l4.2.1,l4.2.2) (.func (.func 206) #[] #[]) r3.2).bind fun r5=>W9 r5.1 ((FA k x1 (l4.1,l4.2.1,l4.2.2) r5.2).bind fun r6=>Zt r6.1 fun n7 b8=>fI n7 fun y9=>fB b8 fun y10=>some (.tuple #[.int .i64 y9,.bool y10],r6.2)))
theorem Yf (k:Nat) (x1:Option Addr) (x2:Int) (σ:Aa):DF k x1 x2 σ=N8 k x1 x2 σ:=by
 cases k with
 | zero=>simp only[DF,Ab]; rfl
 | succ k=>rw[Pc,Nr,N8]; simp only[Jk,JA,OZ,Bj,Bd,Bm,Bk,Bl,Bo,Bn,Bi,Bp,As,AG,Bq,Al,Aw,Av,Ap]
theorem WH (k:Nat) (x1:Option Addr) (x2:Int) (σ:Aa):fn P (XK Kn.b) H k 204 [.agg #[],.pointer x1,.int .i64 x2] σ=DF k x1 x2 σ:=by
 simp only[DF,Ab]
noncomputable def NA (k:Nat) (x1:Option Addr) (x2:Int) (σ:Aa):Option (Value × Aa):=match k with
 | 0=>none
 | k+1=>(fP x1 fun x1=>fI x2 fun x2=>fL σ fun σ=>CV σ (.cells [] 152 true) fun h1 s2=>x1.bind fun a3=>(Ak .i64 s2 a3.block (a3.off+3+0)).bind fun n4=>(EH k x1 n4 x2 s2).bind fun r5=>(Gp r5.1).bind fun l6=>(EH k x1 (0:Int) x2 r5.2).bind fun r7=>(Gp r7.1).bind fun l8=>(Be P 51 (l6.1,l6.2.1,l6.2.2) (l8.1,l8.2.1,l8.2.2) r7.2).bind fun r9=>fR r9 fun r9=>(FA k x1 (r9.1.1,r9.1.2.1,r9.1.2.2) r9.2).bind fun r10=>Zt r10.1 fun n11 b12=>(bif b12 then (x1.bind fun a13=>Y1 r10.2 a13.block (a13.off+3+0) (.int .i64 (Ae (n11+x2))) fun s14=>some (.normal,[],s14)) else (some (.normal,[],r10.2)):Option Ax).bind fun r15=>if r15.1 = .normal then (fI n11 fun y16=>fB b12 fun y17=>some (.tuple #[.int .i64 y16,.bool y17],r15.2.2)) else none)
theorem Yh (k:Nat) (x1:Option Addr) (x2:Int) (σ:Aa):DH k x1 x2 σ=NA k x1 x2 σ:=by
 cases k with
 | zero=>simp only[DH,Ab]; rfl
 | succ k=>rw[Pe,Nt,NA]; simp only[Jk,JA,Bj,Bd,Bm,Bk,Bl,Bo,Bn,Bi,Bp,As,AG,Bq,Al,Aw,Av,Ap]
theorem WL (k:Nat) (x1:Option Addr) (x2:Int) (σ:Aa):fn P (XK Kn.b) H k 212 [.agg #[],.pointer x1,.int .i64 x2] σ=DH k x1 x2 σ:=by
 simp only[DH,Ab]
noncomputable def Mo (k:Nat) (x0:Option Addr) (x1:Int) (σ:Aa):Option (Value × Aa):=match k with
 | 0=>none
 | k+1=>(fP x0 fun x0=>fI x1 fun x1=>fL σ fun σ=>x0.bind fun a1=>(Ak .i64 σ a1.block (a1.off+1)).bind fun n2=>x0.bind fun a3=>(Ak .i64 σ a3.block (a3.off+0)).bind fun n4=>fB (decide ((Ae (n2-n4))≥x1)) fun y5=>some (.bool y5,σ))
theorem Tb (k:Nat) (x0:Option Addr) (x1:Int) (σ:Aa):DZ k x0 x1 σ=Mo k x0 x1 σ:=by
 cases k with
 | zero=>simp only[DZ,Ab]; rfl
 | succ k=>rw[QQ,Pv,Mo]; simp only[Bj,Bd,Bm,Bk,Bl,Bo,Bn,Bi,Bp,As,AG,Bq,Al,Aw,Av,Ap]
noncomputable def Lr (k:Nat) (x0:Option Addr) (x1:Int) (σ:Aa):Option (Value × Aa):=match k with
 | 0=>none
 | k+1=>(fP x0 fun x0=>fI x1 fun x1=>fL σ fun σ=>x0.bind fun a1=>(Ak .i64 σ a1.block (a1.off+0)).bind fun n2=>x0.bind fun a3=>Y1 σ a3.block (a3.off+0) (.int .i64 (Ae (n2+x1))) fun s4=>x0.bind fun a5=>(Ak .i64 s4 a5.block (a5.off+0)).bind fun n6=>fI (Ae (n6-x1)) fun y7=>some (.int .i64 y7,s4))
theorem RE (k:Nat) (x0:Option Addr) (x1:Int) (σ:Aa):D2 k x0 x1 σ=Lr k x0 x1 σ:=by
 cases k with
 | zero=>simp only[D2,Ab]; rfl
 | succ k=>rw[Qj,Oq,Lr]; simp only[Bj,Bd,Bm,Bk,Bl,Bo,Bn,Bi,Bp,As,AG,Bq,Al,Aw,Av,Ap]
noncomputable def GY (k:Nat) (x0:Option Addr) (x1:Option Addr) (x2:Int) (σ:Aa):Option (Value × Aa):=match k with
 | 0=>none
 | k+1=>(fP x0 fun x0=>fP x1 fun x1=>fI x2 fun x2=>fL σ fun σ=>(Mo k x1 x2 σ).bind fun r1=>(CT r1.1).bind fun b2=>(bif !b2 then ((F9 k x0 r1.2).bind fun r3=>(cj r3.1).bind fun q4=>if q4.length=2 then q4.head?.bind fun v5=>hU v5 fun n6 n7=>q4.tail.head?.bind fun v8=>(CT v8).bind fun b9=>CV r3.2 (.cells [.int .i64 (0:Int),.int .i64 (0:Int)] 120 true) fun h10 s11=>VH s11 h10 0 [.int .i64 n6,.int .i64 n7] fun s12=>bif !b9 then (some (.ret,[.int .i64 (0:Int),.bool false],s12)) else ((Ak .i64 s12 h10 0).bind fun n13=>(Ak .i64 s12 h10 (0+1)).bind fun n14=>x1.bind fun a15=>VH s12 a15.block a15.off [.int .i64 n13,.int .i64 n14] fun s16=>some (.normal,[],s16)) else none) else (some (.normal,[],r1.2)):Option Ax).bind fun r17=>if r17.1 = .normal then ((Lr k x1 x2 r17.2.2).bind fun r18=>(Bu .i64 r18.1).bind fun n19=>fI n19 fun y20=>fB true fun y21=>some (.tuple #[.int .i64 y20,.bool y21],r18.2)) else if r17.1 = .ret then (iw r17.2.1 fun n22 b23=>fI n22 fun y24=>fB b23 fun y25=>some (.tuple #[.int .i64 y24,.bool y25],r17.2.2)) else none)
theorem Ms (k:Nat) (x0:Option Addr) (x1:Option Addr) (x2:Int) (σ:Aa):BF k x0 x1 x2 σ=GY k x0 x1 x2 σ:=by
 cases k with
 | zero=>simp only[BF,Ab]; rfl
 | succ k=>rw[Lp,Jm,GY]; simp only[DX,Tb,RE,Bj,Bd,Bm,Bk,Bl,Bo,Bn,Bi,Bp,As,AG,Bq,Al,Aw,Av,Ap]
noncomputable def N9 (k:Nat) (x1:Option Addr) (x2:Int) (σ:Aa):Option (Value × Aa):=match k with
 | 0=>none
 | k+1=>(fP x1 fun x1=>fI x2 fun x2=>fL σ fun σ=>CV σ (.cells [] 153 true) fun h1 s2=>x1.bind fun a3=>(GY k x1 (some ⟨a3.block,a3.off+3,none⟩) x2 s2).bind fun r4=>Zt r4.1 fun n5 b6=>fI n5 fun y7=>fB b6 fun y8=>some (.tuple #[.int .i64 y7,.bool y8],r4.2))
theorem Yg (k:Nat) (x1:Option Addr) (x2:Int) (σ:Aa):DG k x1 x2 σ=N9 k x1 x2 σ:=by
 cases k with
 | zero=>simp only[DG,Ab]; rfl
 | succ k=>rw[Pd,Ns,N9]; simp only[Ms,Bj,Bd,Bm,Bk,Bl,Bo,Bn,Bi,Bp,As,AG,Bq,Al,Aw,Av,Ap]
theorem WI (k:Nat) (x1:Option Addr) (x2:Int) (σ:Aa):fn P (XK Kn.b) H k 213 [.agg #[],.pointer x1,.int .i64 x2] σ=DG k x1 x2 σ:=by
 simp only[DG,Ab]
noncomputable def Jd (k n:Nat) (h0:Nat) (c1:Nat) (i2:Int) (x10:Int) (σ:Aa):Option Ax:=match n with
 | 0=>none
 | n+1=>(fN h0 fun h0=>fN c1 fun c1=>fI i2 fun i2=>fI x10 fun x10=>fL σ fun σ=>if (8:Int)=0 then none else bif decide (x10≤(Ae (i2.tdiv (8:Int)))) then (if 0≤x10∧x10<(c1:Nat) then Y1 σ h0 (0+x10.toNat*1) (.bool true) fun s11=>Jd k n h0 c1 i2 (Ae (x10+(1:Int))) s11 else none) else (some (.exit 2,[],σ)))
termination_by structural n
theorem Po (k n:Nat) (h0:Nat) (c1:Nat) (i2:Int) (x10:Int) (σ:Aa):D7 k n h0 c1 i2 x10 σ=Jd k n h0 c1 i2 x10 σ:=by
 induction n generalizing h0 c1 i2 x10 σ with
 | zero=>simp only[D7,Ab]; rfl
 | succ n ih=>rw[JM,IF,Jd]; simp only[He,IY,Gb,ih,Bj,Bd,Bm,Bk,Bl,Bo,Bn,Bi,Bp,As,AG,Bq,Al,Aw,Av,Ap]
noncomputable def Jc (k n:Nat) (p0:Option Addr) (h1:Nat) (c2:Nat) (p3:Option Addr) (c4:Nat) (c5:Nat) (i6:Int) (x20:Int) (σ:Aa):Option Ax:=match n with
 | 0=>none
 | n+1=>(fP p0 fun p0=>fN h1 fun h1=>fN c2 fun c2=>fP p3 fun p3=>fN c4 fun c4=>fN c5 fun c5=>fI i6 fun i6=>fI x20 fun x20=>fL σ fun σ=>bif decide (x20<i6) then (if 0≤x20∧x20<(c4:Nat) then p3.bind fun a7=>(Ak .i64 σ a7.block (a7.off+x20.toNat*1)).bind fun n8=>if (64:Int)=0 then none else if (64:Int)=0 then none else (HS k p0 n8 σ).bind fun r9=>(Bu .i64 r9.1).bind fun n10=>if (8:Int)=0 then none else (Jd k k h1 c2 (Ae ((Ae ((n8.tmod (64:Int))+n10))-(1:Int))) (Ae ((n8.tmod (64:Int)).tdiv (8:Int))) r9.2).bind fun r12=>if r12.1 = .exit 2 then (Jc k n p0 h1 c2 p3 c4 c5 i6 (Ae (x20+(1:Int))) r12.2.2) else none else none) else (some (.exit 0,[],σ)))
termination_by structural n
theorem Wu (k n:Nat) (p0:Option Addr) (h1:Nat) (c2:Nat) (p3:Option Addr) (c4:Nat) (c5:Nat) (i6:Int) (x20:Int) (σ:Aa):D6 k n p0 h1 c2 p3 c4 c5 i6 x20 σ=Jc k n p0 h1 c2 p3 c4 c5 i6 x20 σ:=by
 induction n generalizing p0 h1 c2 p3 c4 c5 i6 x20 σ with
 | zero=>simp only[D6,Ab]; rfl
 | succ n ih=>rw[JL,IE,Jc]; simp only[He,IY,Gb,Po,ih,Bj,Bd,Bm,Bk,Bl,Bo,Bn,Bi,Bp,As,AG,Bq,Al,Aw,Av,Ap]
noncomputable def OT (k:Nat) (x0:Option Addr) (x1:Int) (σ:Aa):Option (Value × Aa):=match k with
 | 0=>none
 | k+1=>(fP x0 fun x0=>fI x1 fun x1=>fL σ fun σ=>(Mq k x0 x1 σ).bind fun r1=>(CT r1.1).bind fun b2=>bif !b2 then (some (.slice none 0 0,r1.2)) else (if 0≤(8:Int)∧(8:Int)≤(8:Int)∧(8:Int)*(1:Nat)≤2 ^ 40∧(8:Int)≤2 ^ 40 then CV r1.2 (.cells (rep (8:Int).toNat [.bool false]) 4 true) fun h3 s4=>(J7 k x0 x1 s4).bind fun r5=>(Gp r5.1).bind fun l6=>(Jc k k x0 h3 ((8:Int).toNat) l6.1 l6.2.1 l6.2.2 ((l6.2.1:Nat):Int) (0:Int) r5.2).bind fun r13=>if r13.1 = .exit 0 then (some (.slice (some ⟨h3,0,none⟩) ((8:Int).toNat) ((8:Int).toNat),r13.2.2)) else none else none))
theorem KC (k:Nat) (x0:Option Addr) (x1:Int) (σ:Aa):CX k x0 x1 σ=OT k x0 x1 σ:=by
 cases k with
 | zero=>simp only[CX,Ab]; rfl
 | succ k=>rw[IL,ID,OT]; simp only[He,IY,Gb,Po,Wu,Bj,Bd,Bm,Bk,Bl,Bo,Bn,Bi,Bp,As,AG,Bq,Al,Aw,Av,Ap]
noncomputable def G5 (k n:Nat) (p0:Option Addr) (c1:Nat) (c2:Nat) (x8:Int) (σ:Aa):Option Ax:=match n with
 | 0=>none
 | n+1=>(fP p0 fun p0=>fN c1 fun c1=>fN c2 fun c2=>fI x8 fun x8=>fL σ fun σ=>(bif decide (x8<((c1:Nat):Int)) then if 0≤x8∧x8<(c1:Nat) then p0.bind fun a11=>(UP σ a11.block (a11.off+x8.toNat*1)).bind fun b12=>some (!b12,σ) else none else some (false,σ)).bind fun r13=>bif r13.1 then (G5 k n p0 c1 c2 (Ae (x8+(1:Int))) r13.2) else (some (.exit 4,[.int .i64 x8],r13.2)))
termination_by structural n
theorem HU (k n:Nat) (p0:Option Addr) (c1:Nat) (c2:Nat) (x8:Int) (σ:Aa):Cq k n p0 c1 c2 x8 σ=G5 k n p0 c1 c2 x8 σ:=by
 induction n generalizing p0 c1 c2 x8 σ with
 | zero=>simp only[Cq,Ab]; rfl
 | succ n ih=>rw[Ht,Gy,G5]; simp only[KC,DX,CQ,ih,Bj,Bd,Bm,Bk,Bl,Bo,Bn,Bi,Bp,As,AG,Bq,Al,Aw,Av,Ap]
noncomputable def G4 (k n:Nat) (p0:Option Addr) (h1:Nat) (i2:Int) (p3:Option Addr) (c4:Nat) (c5:Nat) (x7:Int) (σ:Aa):Option Ax:=match n with
 | 0=>none
 | n+1=>(fP p0 fun p0=>fN h1 fun h1=>fI i2 fun i2=>fP p3 fun p3=>fN c4 fun c4=>fN c5 fun c5=>fI x7 fun x7=>fL σ fun σ=>bif decide (x7<((c4:Nat):Int)) then ((G5 k k p3 c4 c5 x7 σ).bind fun r14=>if r14.1 = .exit 4 then (UM r14.2.1 fun n15=>(bif decide (n15>x7) then p0.bind fun a16=>(Ak .i64 r14.2.2 a16.block (a16.off+3+1)).bind fun n17=>some (decide ((Ae ((Ae (i2*(64:Int)))+(Ae (x7*(8:Int)))))≥n17),r14.2.2) else some (false,r14.2.2)).bind fun r18=>bif r18.1 then (VH r18.2 h1 0 [.int .i64 (Ae ((Ae (i2*(64:Int)))+(Ae (x7*(8:Int))))),.int .i64 (Ae ((Ae (i2*(64:Int)))+(Ae (n15*(8:Int)))))] fun s19=>some (.ret,[.bool true],s19)) else (G4 k n p0 h1 i2 p3 c4 c5 (Ae ((if n15>x7 then n15 else x7)+(1:Int))) r18.2)) else none) else (some (.exit 2,[],σ)))
termination_by structural n
theorem L6 (k n:Nat) (p0:Option Addr) (h1:Nat) (i2:Int) (p3:Option Addr) (c4:Nat) (c5:Nat) (x7:Int) (σ:Aa):Cp k n p0 h1 i2 p3 c4 c5 x7 σ=G4 k n p0 h1 i2 p3 c4 c5 x7 σ:=by
 induction n generalizing p0 h1 i2 p3 c4 c5 x7 σ with
 | zero=>simp only[Cp,Ab]; rfl
 | succ n ih=>rw[KL,Ix,G4]; simp only[KC,DX,CQ,HU,ih,Bj,Bd,Bm,Bk,Bl,Bo,Bn,Bi,Bp,As,AG,Bq,Al,Aw,Av,Ap]
noncomputable def G3 (k n:Nat) (p0:Option Addr) (h1:Nat) (p2:Option Addr) (c3:Nat) (c4:Nat) (i5:Int) (x13:Int) (σ:Aa):Option Ax:=match n with
 | 0=>none
 | n+1=>(fP p0 fun p0=>fN h1 fun h1=>fP p2 fun p2=>fN c3 fun c3=>fN c4 fun c4=>fI i5 fun i5=>fI x13 fun x13=>fL σ fun σ=>bif decide (x13<i5) then (if 0≤x13∧x13<(c3:Nat) then p2.bind fun a5=>(Ak .i64 σ a5.block (a5.off+x13.toNat*1)).bind fun n6=>p0.bind fun a7=>(J4 σ a7.block (a7.off+0)).bind fun p8=>(OT k p8 n6 σ).bind fun r9=>(Gp r9.1).bind fun l10=>(G4 k k p0 h1 n6 l10.1 l10.2.1 l10.2.2 (0:Int) r9.2).bind fun r20=>if r20.1 = .exit 2 then (G3 k n p0 h1 p2 c3 c4 i5 (Ae (x13+(1:Int))) r20.2.2) else if r20.1 = .ret then (jI r20.2.1 fun b21=>some (.ret,[.bool b21],r20.2.2)) else none else none) else (some (.exit 0,[],σ)))
termination_by structural n
theorem RD (k n:Nat) (p0:Option Addr) (h1:Nat) (p2:Option Addr) (c3:Nat) (c4:Nat) (i5:Int) (x13:Int) (σ:Aa):BX k n p0 h1 p2 c3 c4 i5 x13 σ=G3 k n p0 h1 p2 c3 c4 i5 x13 σ:=by
 induction n generalizing p0 h1 p2 c3 c4 i5 x13 σ with
 | zero=>simp only[BX,Ab]; rfl
 | succ n ih=>rw[Hs,Gx,G3]; simp only[KC,DX,CQ,HU,L6,ih,Bj,Bd,Bm,Bk,Bl,Bo,Bn,Bi,Bp,As,AG,Bq,Al,Aw,Av,Ap]
noncomputable def KF (k:Nat) (x0:Option Addr) (σ:Aa):Option (Value × Aa):=match k with
 | 0=>none
 | k+1=>(fP x0 fun x0=>fL σ fun σ=>CV σ (.cells [.int .i64 (0:Int),.int .i64 (0:Int)] 120 true) fun h1 s2=>(GX k x0 s2).bind fun r3=>(Gp r3.1).bind fun l4=>(G3 k k x0 h1 l4.1 l4.2.1 l4.2.2 ((l4.2.1:Nat):Int) (0:Int) r3.2).bind fun r22=>if r22.1 = .exit 0 then ((F9 k x0 r22.2.2).bind fun r23=>(cj r23.1).bind fun q24=>if q24.length=2 then q24.head?.bind fun v25=>hU v25 fun n26 n27=>q24.tail.head?.bind fun v28=>(CT v28).bind fun b29=>VH r23.2 h1 0 [.int .i64 n26,.int .i64 n27] fun s30=>(((R5 s30 h1 0 2).bind fun v31=>some (.agg v31.toArray)).bind fun v32=>some [v32,.bool b29]).bind fun vs33=>some (LV vs33,s30) else none) else if r22.1 = .ret then (jI r22.2.1 fun b34=>(((R5 r22.2.2 h1 0 2).bind fun v35=>some (.agg v35.toArray)).bind fun v36=>some [v36,.bool b34]).bind fun vs37=>some (LV vs37,r22.2.2)) else none)
theorem Ue (k:Nat) (x0:Option Addr) (σ:Aa):CW k x0 σ=KF k x0 σ:=by
 cases k with
 | zero=>simp only[CW,Ab]; rfl
 | succ k=>rw[Mw,Kr,KF]; simp only[KC,DX,CQ,HU,L6,RD,Bj,Bd,Bm,Bk,Bl,Bo,Bn,Bi,Bp,As,AG,Bq,Al,Aw,Av,Ap]
noncomputable def MJ (k:Nat) (x1:Option Addr) (x2:Int) (σ:Aa):Option (Value × Aa):=match k with
 | 0=>none
 | k+1=>(fP x1 fun x1=>fI x2 fun x2=>fL σ fun σ=>CV σ (.cells [] 154 true) fun h1 s2=>x1.bind fun a3=>(Mo k (some ⟨a3.block,a3.off+3,none⟩) x2 s2).bind fun r4=>(CT r4.1).bind fun b5=>(bif b5 then (some (.normal,[],r4.2)) else (bif decide (x2>(8:Int)) then (x1.bind fun a6=>(GY k x1 (some ⟨a6.block,a6.off+5,none⟩) x2 r4.2).bind fun r7=>Zt r7.1 fun n8 b9=>some (.ret,[.int .i64 n8,.bool b9],r7.2)) else ((KF k x1 r4.2).bind fun r10=>(cj r10.1).bind fun q11=>if q11.length=2 then q11.head?.bind fun v12=>hU v12 fun n13 n14=>q11.tail.head?.bind fun v15=>(CT v15).bind fun b16=>CV r10.2 (.cells [.int .i64 (0:Int),.int .i64 (0:Int)] 120 true) fun h17 s18=>VH s18 h17 0 [.int .i64 n13,.int .i64 n14] fun s19=>bif !b16 then (some (.ret,[.int .i64 (0:Int),.bool false],s19)) else ((Ak .i64 s19 h17 0).bind fun n20=>(Ak .i64 s19 h17 (0+1)).bind fun n21=>x1.bind fun a22=>VH s19 a22.block (a22.off+3) [.int .i64 n20,.int .i64 n21] fun s23=>some (.normal,[],s23)) else none)):Option Ax).bind fun r24=>if r24.1 = .normal then (x1.bind fun a25=>(Lr k (some ⟨a25.block,a25.off+3,none⟩) x2 r24.2.2).bind fun r26=>(Bu .i64 r26.1).bind fun n27=>fI n27 fun y28=>fB true fun y29=>some (.tuple #[.int .i64 y28,.bool y29],r26.2)) else if r24.1 = .ret then (iw r24.2.1 fun n30 b31=>fI n30 fun y32=>fB b31 fun y33=>some (.tuple #[.int .i64 y32,.bool y33],r24.2.2)) else none)
theorem WK (k:Nat) (x1:Option Addr) (x2:Int) (σ:Aa):Dq k x1 x2 σ=MJ k x1 x2 σ:=by
 cases k with
 | zero=>simp only[Dq,Ab]; rfl
 | succ k=>rw[OB,M6,MJ]; simp only[Ms,Tb,RE,Ue,Bj,Bd,Bm,Bk,Bl,Bo,Bn,Bi,Bp,As,AG,Bq,Al,Aw,Av,Ap]
theorem Wb (k:Nat) (x1:Option Addr) (x2:Int) (σ:Aa):fn P (XK Kn.b) H k 217 [.agg #[],.pointer x1,.int .i64 x2] σ=Dq k x1 x2 σ:=by
 simp only[Dq,Ab]
noncomputable def Qa (k:Nat) (n:FuncId) (l:List Value) (σ:Aa):Option (Value × Aa):=
 if n=99 then (match l with
  | [.pointer y1,.int .i64 y2]=>JZ k y1 y2 σ
  | l=>fn P (XK Kn.b) H k 99 l σ) else
 if n=199 then (match l with
  | [.agg ⟨[]⟩,.pointer y1,.int .i64 y2]=>MI k y1 y2 σ
  | l=>fn P (XK Kn.b) H k 199 l σ) else
 if n=204 then (match l with
  | [.agg ⟨[]⟩,.pointer y1,.int .i64 y2]=>N8 k y1 y2 σ
  | l=>fn P (XK Kn.b) H k 204 l σ) else
 if n=212 then (match l with
  | [.agg ⟨[]⟩,.pointer y1,.int .i64 y2]=>NA k y1 y2 σ
  | l=>fn P (XK Kn.b) H k 212 l σ) else
 if n=213 then (match l with
  | [.agg ⟨[]⟩,.pointer y1,.int .i64 y2]=>N9 k y1 y2 σ
  | l=>fn P (XK Kn.b) H k 213 l σ) else
 if n=217 then (match l with
  | [.agg ⟨[]⟩,.pointer y1,.int .i64 y2]=>MJ k y1 y2 σ
  | l=>fn P (XK Kn.b) H k 217 l σ) else
 fn P (XK Kn.b) H k n l σ
theorem eR (k:Nat) (n:FuncId) (l:List Value) (σ:Aa):fn P (XK Kn.b) H k n l σ=Qa k n l σ:=by
 unfold Qa
 split
 ·rename_i hn; subst hn
  split
  ·exact (SQ k _ _ σ).trans (TG k _ _ σ)
  ·rfl
 split
 ·rename_i hn; subst hn
  split
  ·exact (Wa k _ _ σ).trans (WJ k _ _ σ)
  ·rfl
 split
 ·rename_i hn; subst hn
  split
  ·exact (WH k _ _ σ).trans (Yf k _ _ σ)
  ·rfl
 split
 ·rename_i hn; subst hn
  split
  ·exact (WL k _ _ σ).trans (Yh k _ _ σ)
  ·rfl
 split
 ·rename_i hn; subst hn
  split
  ·exact (WI k _ _ σ).trans (Yg k _ _ σ)
  ·rfl
 split
 ·rename_i hn; subst hn
  split
  ·exact (Wb k _ _ σ).trans (WK k _ _ σ)
  ·rfl
 rfl
noncomputable def TR (k:Nat) (f:Value) (args:List Value) (σ:Aa):Option (Value × Aa):=match f with
 | .func (.func n) first cap=>Qa k n (first.toList++args++cap.toList) σ
 | .func (.method nm) first _=>(match first.toList++args with
   | .iface t v::rest=>(Vt P t nm).bind fun n=>Qa k n (v::rest) σ
   | _=>none)
 | _=>none
theorem eU (k:Nat) (f:Value) (args:List Value) (σ:Aa):Cy k f args σ=TR k f args σ:=by
 simp only[Cy,Ab]
 unfold PW TR
 simp only[eR]
 rfl
noncomputable def B8 (k:Nat) (x0:Option Addr) (x1_0:Int) (x1_1:Int) (x1_2:Int) (σ:Aa):Option (Value × Aa):=match k with
 | 0=>none
 | k+1=>(fP x0 fun x0=>fI x1_0 fun x1_0=>fI x1_1 fun x1_1=>fI x1_2 fun x1_2=>fL σ fun σ=>CV σ (.cells [.int .i64 x1_0,.int .i64 x1_1,.int .i64 x1_2] 33 true) fun h1 s2=>(KG k x0 s2).bind fun r3=>(CT r3.1).bind fun b4=>bif !b4 then (fI (0:Int) fun y5=>fI (5:Int) fun y6=>some (.tuple #[.int .i64 y5,.int .i64 y6],r3.2)) else ((Ak .i64 r3.2 h1 0).bind fun n7=>(Ak .i64 r3.2 h1 (0+1)).bind fun n8=>(Ak .i64 r3.2 h1 (0+1+1)).bind fun n9=>(OV k n7 n8 n9 r3.2).bind fun r10=>(CT r10.1).bind fun b11=>bif !b11 then (fI (0:Int) fun y12=>fI (2:Int) fun y13=>some (.tuple #[.int .i64 y12,.int .i64 y13],r10.2)) else ((Ak .i64 r10.2 h1 0).bind fun n14=>(Ak .i64 r10.2 h1 (0+1)).bind fun n15=>(Ak .i64 r10.2 h1 (0+1+1)).bind fun n16=>(OW k n14 n15 n16 r10.2).bind fun r17=>(Bu .i64 r17.1).bind fun n18=>(Mp k  r17.2).bind fun r19=>(Gp r19.1).bind fun l20=>x0.bind fun a21=>(Ak .i64 r19.2 a21.block (a21.off+2)).bind fun n22=>if 0≤n22∧n22<(l20.2.1:Nat) then l20.1.bind fun a23=>(Gr r19.2 a23.block (a23.off+n22.toNat*1)).bind fun v24=>td v24 fun v25=>(bif decide (n18>(32:Int)) then (some (.normal,[.func (.func 99) #[] #[]],r19.2)) else (some (.normal,[(.func (.method "dustcart/alloc.place") #[v25] #[])],r19.2)):Option Ax).bind fun r26=>if r26.1 = .normal then (xA r26.2.1 fun f27=>x0.bind fun a28=>(J4 r26.2.2 a28.block a28.off).bind fun p29=>(Ak .i64 r26.2.2 a28.block (a28.off+1)).bind fun n30=>(Ak .i64 r26.2.2 a28.block (a28.off+1+1)).bind fun n31=>(Ak .i64 r26.2.2 a28.block (a28.off+1+1+1)).bind fun n32=>(Ak .i64 r26.2.2 a28.block (a28.off+1+1+1+1)).bind fun n33=>(Ak .i64 r26.2.2 a28.block (a28.off+1+1+1+1+1)).bind fun n34=>(Ak .i64 r26.2.2 a28.block (a28.off+1+1+1+1+1+1)).bind fun n35=>CV r26.2.2 (.cells [.pointer none,.int .i64 (0:Int),.int .i64 (0:Int),.int .i64 (0:Int),.int .i64 (0:Int),.int .i64 (0:Int),.int .i64 (0:Int)] 122 true) fun h36 s37=>VH s37 h36 0 [.pointer p29,.int .i64 n30,.int .i64 n31,.int .i64 n32,.int .i64 n33,.int .i64 n34,.int .i64 n35] fun s38=>(TR k f27 [.pointer x0,.int .i64 n18] s38).bind fun r39=>Zt r39.1 fun n40 b41=>bif !b41 then (fI (0:Int) fun y42=>fI (6:Int) fun y43=>some (.tuple #[.int .i64 y42,.int .i64 y43],r39.2)) else (x0.bind fun a44=>(J4 r39.2 a44.block (a44.off+0)).bind fun p45=>if (64:Int)=0 then none else (Lu k p45 (Ae (n40.tdiv (64:Int))) r39.2).bind fun r46=>(Bu .i64 r46.1).bind fun n47=>x0.bind fun a48=>(Ak .i64 r46.2 a48.block (a48.off+1)).bind fun n49=>(bif n47 == n49 then (x0.bind fun a50=>(J4 r46.2 a50.block (a50.off+0)).bind fun p51=>(Ak .i64 r46.2 h1 0).bind fun n52=>(Ak .i64 r46.2 h1 (0+1)).bind fun n53=>(Ak .i64 r46.2 h1 (0+1+1)).bind fun n54=>(Lt k p51 n40 n52 n53 n54 r46.2).bind fun r55=>EL r55.1 fun n56 n57=>some (.normal,[.int .i64 n57],r55.2)) else (some (.normal,[.int .i64 (5:Int)],r46.2)):Option Ax).bind fun r58=>if r58.1 = .normal then (UM r58.2.1 fun n59=>bif n59 != (0:Int) then ((J4 r58.2.2 h36 0).bind fun p60=>(Ak .i64 r58.2.2 h36 (0+1)).bind fun n61=>(Ak .i64 r58.2.2 h36 (0+1+1)).bind fun n62=>(Ak .i64 r58.2.2 h36 (0+1+1+1)).bind fun n63=>(Ak .i64 r58.2.2 h36 (0+1+1+1+1)).bind fun n64=>(Ak .i64 r58.2.2 h36 (0+1+1+1+1+1)).bind fun n65=>(Ak .i64 r58.2.2 h36 (0+1+1+1+1+1+1)).bind fun n66=>x0.bind fun a67=>VH r58.2.2 a67.block a67.off [.pointer p60,.int .i64 n61,.int .i64 n62,.int .i64 n63,.int .i64 n64,.int .i64 n65,.int .i64 n66] fun s68=>fI (0:Int) fun y69=>fI (6:Int) fun y70=>some (.tuple #[.int .i64 y69,.int .i64 y70],s68)) else (fI n40 fun y71=>fI (0:Int) fun y72=>some (.tuple #[.int .i64 y71,.int .i64 y72],r58.2.2))) else none)) else none else none)))
theorem TF (k:Nat) (x0:Option Addr) (x1_0:Int) (x1_1:Int) (x1_2:Int) (σ:Aa):B6 k x0 x1_0 x1_1 x1_2 σ=B8 k x0 x1_0 x1_1 x1_2 σ:=by
 cases k with
 | zero=>simp only[B6,Ab]; rfl
 | succ k=>rw[LI,JB,B8]; simp only[TN,TL,N3,Sz,Uf,Tc,eU,Bj,Bd,Bm,Bk,Bl,Bo,Bn,Bi,Bp,As,AG,Bq,Al,Aw,Av,Ap]
noncomputable def T8 (k:Nat) (x0:Option Addr) (x1:Int) (x2:Int) (σ:Aa):Option (Value × Aa):=match k with
 | 0=>none
 | k+1=>(fP x0 fun x0=>fI x1 fun x1=>fI x2 fun x2=>fL σ fun σ=>(EA k x0 σ).bind fun r1=>(Bu .i64 r1.1).bind fun n2=>(bif n2 == (0:Int) then some (true,r1.2) else some (decide (x1<(0:Int)),r1.2)).bind fun r3=>(bif r3.1 then some (true,r3.2) else some (decide (x1≥(8:Int)),r3.2)).bind fun r4=>(bif r4.1 then some (true,r4.2) else some (decide (x2<(0:Int)),r4.2)).bind fun r5=>(bif r5.1 then some (true,r5.2) else (Mp k  r5.2).bind fun r6=>(Gp r6.1).bind fun l7=>some (decide (x2≥((l7.2.1:Nat):Int)),r6.2)).bind fun r8=>bif r8.1 then (fI (1:Int) fun y9=>some (.tuple #[.pointer none,.int .i64 y9],r8.2)) else (CV r8.2 (.cells [.pointer x0,.int .i64 x1,.int .i64 x2,.int .i64 (0:Int),.int .i64 (0:Int),.int .i64 (0:Int),.int .i64 (0:Int)] 122 true) fun h10 s11=>fI (0:Int) fun y12=>some (.tuple #[.pointer (some ⟨h10,0,none⟩),.int .i64 y12],s11)))
theorem jR (k:Nat) (x0:Option Addr) (x1:Int) (x2:Int) (σ:Aa):Hb k x0 x1 x2 σ=T8 k x0 x1 x2 σ:=by
 cases k with
 | zero=>simp only[Hb,Ab]; rfl
 | succ k=>rw[Sj,Tf,T8]; simp only[Du,Tc,Bj,Bd,Bm,Bk,Bl,Bo,Bn,Bi,Bp,As,AG,Bq,Al,Aw,Av,Ap]
noncomputable def PO (k:Nat) (x0:Option Addr) (x1:Int) (σ:Aa):Option (Value × Aa):=match k with
 | 0=>none
 | k+1=>(fP x0 fun x0=>fI x1 fun x1=>fL σ fun σ=>(KI k x0 x1 σ).bind fun r1=>(CT r1.1).bind fun b2=>bif !b2 then (fI (-1:Int) fun y3=>some (.int .i64 y3,r1.2)) else ((Kb k x0 x1 r1.2).bind fun r4=>(Bu .i64 r4.1).bind fun n5=>fI n5 fun y6=>some (.int .i64 y6,r4.2)))
theorem aC (k:Nat) (x0:Option Addr) (x1:Int) (σ:Aa):Eg k x0 x1 σ=PO k x0 x1 σ:=by
 cases k with
 | zero=>simp only[Eg,Ab]; rfl
 | succ k=>rw[Rc,P7,PO]; simp only[Rj,Ji,Bj,Bd,Bm,Bk,Bl,Bo,Bn,Bi,Bp,As,AG,Bq,Al,Aw,Av,Ap]
noncomputable def QK (k:Nat) (x0:Option Addr) (x1:Int) (σ:Aa):Option (Value × Aa):=match k with
 | 0=>none
 | k+1=>(fP x0 fun x0=>fI x1 fun x1=>fL σ fun σ=>(Eh k x0 σ).bind fun r1=>(CT r1.1).bind fun b2=>(bif b2 then some (decide (x1≥(0:Int)),r1.2) else some (false,r1.2)).bind fun r3=>(bif r3.1 then if (2:Int)=0 then none else some ((x1.tmod (2:Int)) == (0:Int),r3.2) else some (false,r3.2)).bind fun r4=>(bif r4.1 then x0.bind fun a5=>(J4 r4.2 a5.block (a5.off+2)).bind fun p6=>if (2:Int)=0 then none else (PO k p6 (Ae (x1.tdiv (2:Int))) r4.2).bind fun r7=>(Bu .i64 r7.1).bind fun n8=>some (n8 == (1:Int),r7.2) else some (false,r4.2)).bind fun r9=>fB r9.1 fun y10=>some (.bool y10,r9.2))
theorem bI (k:Nat) (x0:Option Addr) (x1:Int) (σ:Aa):Dw k x0 x1 σ=QK k x0 x1 σ:=by
 cases k with
 | zero=>simp only[Dw,Ab]; rfl
 | succ k=>rw[Sk,QA,QK]; simp only[Ex,aC,Bj,Bd,Bm,Bk,Bl,Bo,Bn,Bi,Bp,As,AG,Bq,Al,Aw,Av,Ap]
noncomputable def NB (k:Nat) (x0:Option Addr) (x1:Int) (σ:Aa):Option (Value × Aa):=match k with
 | 0=>none
 | k+1=>(fP x0 fun x0=>fI x1 fun x1=>fL σ fun σ=>(Eh k x0 σ).bind fun r1=>(CT r1.1).bind fun b2=>bif !b2 then (fI (5:Int) fun y3=>some (.int .i64 y3,r1.2)) else ((QK k x0 x1 r1.2).bind fun r4=>(CT r4.1).bind fun b5=>bif !b5 then (fI (4:Int) fun y6=>some (.int .i64 y6,r4.2)) else (fI (0:Int) fun y7=>some (.int .i64 y7,r4.2))))
theorem Yw (k:Nat) (x0:Option Addr) (x1:Int) (σ:Aa):Ca k x0 x1 σ=NB k x0 x1 σ:=by
 cases k with
 | zero=>simp only[Ca,Ab]; rfl
 | succ k=>rw[Pf,Nu,NB]; simp only[Ex,bI,Bj,Bd,Bm,Bk,Bl,Bo,Bn,Bi,Bp,As,AG,Bq,Al,Aw,Av,Ap]
noncomputable def PN (k:Nat) (x0:Option Addr) (x1:Int) (x2:Int) (σ:Aa):Option (Value × Aa):=match k with
 | 0=>none
 | k+1=>(fP x0 fun x0=>fI x1 fun x1=>fI x2 fun x2=>fL σ fun σ=>x0.bind fun a1=>(Cr σ a1.block (a1.off+1)).bind fun l2=>(Md 3 1 (l2.1,l2.2.1,l2.2.2) (some (.int .i64 x1)) (some (.int .i64 (Ae (x1+x2)))) none σ).bind fun l3=>(if l3.2.1=0 then some σ else l3.1.bind fun a5=>Ip σ a5.block a5.off (rep l3.2.1 [.int .i64 (0:Int)])).bind fun s4=>wW s4 fun s4=>some (.tuple #[],s4))
theorem ZT (k:Nat) (x0:Option Addr) (x1:Int) (x2:Int) (σ:Aa):GG k x0 x1 x2 σ=PN k x0 x1 x2 σ:=by
 cases k with
 | zero=>simp only[GG,Ab]; rfl
 | succ k=>rw[QX,P2,PN]; simp only[Bj,Bd,Bm,Bk,Bl,Bo,Bn,Bi,Bp,As,AG,Bq,Al,Aw,Av,Ap]
noncomputable def PK (k:Nat) (x0:Option Addr) (x1:Int) (σ:Aa):Option (Value × Aa):=match k with
 | 0=>none
 | k+1=>(fP x0 fun x0=>fI x1 fun x1=>fL σ fun σ=>(NB k x0 x1 σ).bind fun r1=>(Bu .i64 r1.1).bind fun n2=>bif n2 != (0:Int) then (fI n2 fun y3=>some (.int .i64 y3,r1.2)) else (x0.bind fun a4=>(ou r1.2 a4.block (a4.off+4)).bind fun m5=>x0.bind fun a6=>(Cr r1.2 a6.block (a6.off+1)).bind fun l7=>if 0≤x1∧x1<(l7.2.1:Nat) then l7.1.bind fun a8=>(Ak .i64 r1.2 a8.block (a8.off+x1.toNat*1)).bind fun n9=>(bL r1.2 m5).bind fun es10=>wW (mV r1.2 m5 (N6 n9 es10)) fun s11=>x0.bind fun a12=>(J4 s11 a12.block (a12.off+2)).bind fun p13=>if (2:Int)=0 then none else (Ka k p13 (Ae (x1.tdiv (2:Int))) (0:Int) s11).bind fun r14=>(Bu .i64 r14.1).bind fun n15=>x0.bind fun a16=>(J4 r14.2 a16.block (a16.off+3)).bind fun p17=>if (2:Int)=0 then none else (Ka k p17 (Ae (x1.tdiv (2:Int))) (0:Int) r14.2).bind fun r18=>(Bu .i64 r18.1).bind fun n19=>(HS k x0 x1 r18.2).bind fun r20=>(Bu .i64 r20.1).bind fun n21=>(PN k x0 x1 n21 r20.2).bind fun r22=>W9 r22.1 (fI (0:Int) fun y23=>some (.int .i64 y23,r22.2)) else none))
theorem ZR (k:Nat) (x0:Option Addr) (x1:Int) (σ:Aa):Ed k x0 x1 σ=PK k x0 x1 σ:=by
 cases k with
 | zero=>simp only[Ed,Ab]; rfl
 | succ k=>rw[QT,Py,PK]; simp only[Yw,Gb,TB,ZT,Bj,Bd,Bm,Bk,Bl,Bo,Bn,Bi,Bp,As,AG,Bq,Al,Aw,Av,Ap]
noncomputable def TT (k:Nat)  (σ:Aa):Option (Value × Aa):=match k with
 | 0=>none
 | k+1=>(fL σ fun σ=>(V5 k (4:Int) σ).bind fun r1=>Wx r1.1 fun p2 n3=>(T8 k p2 (0:Int) (0:Int) r1.2).bind fun r4=>Wx r4.1 fun p5 n6=>(PX P 42 (.pointer p5) (.pointer none)).bind fun e7=>(bif e7 then some (true,r4.2) else some (n6 != (0:Int),r4.2)).bind fun r8=>bif r8.1 then (fB false fun y9=>some (.bool y9,r8.2)) else ((B8 k p5 (0:Int) (4:Int) (0:Int) r8.2).bind fun r10=>EL r10.1 fun n11 n12=>(B8 k p5 (0:Int) (0:Int) (0:Int) r10.2).bind fun r13=>EL r13.1 fun n14 n15=>(B8 k p5 (0:Int) (4:Int) (0:Int) r13.2).bind fun r16=>EL r16.1 fun n17 n18=>(PK k p2 (64:Int) r16.2).bind fun r19=>(Bu .i64 r19.1).bind fun n20=>(B8 k p5 (0:Int) (2:Int) (0:Int) r19.2).bind fun r21=>EL r21.1 fun n22 n23=>(B8 k p5 (0:Int) (2:Int) (0:Int) r21.2).bind fun r24=>EL r24.1 fun n25 n26=>(bif n11 != (64:Int) then some (true,r24.2) else some (n12 != (0:Int),r24.2)).bind fun r27=>(bif r27.1 then some (true,r27.2) else some (n14 != (70:Int),r27.2)).bind fun r28=>(bif r28.1 then some (true,r28.2) else some (n17 != (72:Int),r28.2)).bind fun r29=>(bif r29.1 then some (true,r29.2) else some (n22 != (64:Int),r29.2)).bind fun r30=>(bif r30.1 then some (true,r30.2) else some (n25 != (78:Int),r30.2)).bind fun r31=>bif r31.1 then (fB false fun y32=>some (.bool y32,r31.2)) else ((V5 k (4:Int) r31.2).bind fun r33=>Wx r33.1 fun p34 n35=>(Ls k p34 (1:Int) (0:Int) r33.2).bind fun r36=>(Bu .i64 r36.1).bind fun n37=>(Lt k p34 (72:Int) (0:Int) (6:Int) (0:Int) r36.2).bind fun r38=>EL r38.1 fun n39 n40=>(T8 k p34 (0:Int) (4:Int) r38.2).bind fun r41=>Wx r41.1 fun p42 n43=>(B8 k p42 (0:Int) (6:Int) (0:Int) r41.2).bind fun r44=>EL r44.1 fun n45 n46=>(B8 k p42 (0:Int) (6:Int) (0:Int) r44.2).bind fun r47=>EL r47.1 fun n48 n49=>(B8 k p42 (0:Int) (30:Int) (0:Int) r47.2).bind fun r50=>EL r50.1 fun n51 n52=>(B8 k p42 (0:Int) (8:Int) (0:Int) r50.2).bind fun r53=>EL r53.1 fun n54 n55=>(bif n45 == (64:Int) then some (n48 == (80:Int),r53.2) else some (false,r53.2)).bind fun r56=>(bif r56.1 then some (n54 == (128:Int),r56.2) else some (false,r56.2)).bind fun r57=>(bif r57.1 then some (n55 == (0:Int),r57.2) else some (false,r57.2)).bind fun r58=>fB r58.1 fun y59=>some (.bool y59,r58.2))))
theorem fT (k:Nat)  (σ:Aa):FL k  σ=TT k  σ:=by
 cases k with
 | zero=>simp only[FL,Ab]; rfl
 | succ k=>rw[Xa,Y6,TT]; simp only[lU,TF,jR,N2,Sz,ZR,Bj,Bd,Bm,Bk,Bl,Bo,Bn,Bi,Bp,As,AG,Bq,Al,Aw,Av,Ap]
end Go.Proofs.YtlaplcglpnlieaaGreat
