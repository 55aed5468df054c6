/-
 PRINTED BY A PROGRAM OF THIS SESSION'S OWN (gen2.py): the functions that the examples reach, as definitions.
-/
import Derived.Test.YtlaplcglpnlieaaGreatP6
import Derived.Test.YtlaplcglpnlieaaGreatP10
set_option maxRecDepth 100000
set_option linter.unusedVariables false
set_option linter.unusedSimpArgs false
set_option linter.unusedSectionVars false
namespace Go.Proofs.YtlaplcglpnlieaaGreat
open Go Go.AX
local instance u5:Kn:=⟨false⟩
variable [AK]
noncomputable def Hu (k n:Nat) (p0:Option Addr) (c1:Nat) (c2:Nat) (i3:Int) (i4:Int) (x8:Int) (σ:Aa):Option Ay:=match n with
 | 0=>none
 | n+1=>(fP p0 fun p0=>fN c1 fun c1=>fN c2 fun c2=>fI i3 fun i3=>fI i4 fun i4=>fI x8 fun x8=>fL σ fun σ=>bif decide (x8<i4) then (if 0≤x8∧x8<(c1:Nat) then p0.bind fun a1=>(Ai .i64 σ a1.block (a1.off+x8.toNat*1)).bind fun n2=>bif i3 == n2 then (some (.ret,[.int .i64 x8],σ)) else (Hu k n p0 c1 c2 i3 i4 (Ad (x8+(1:Int))) σ) else none) else (some (.exit 0,[],σ)))
termination_by structural n
theorem TY (k n:Nat) (p0:Option Addr) (c1:Nat) (c2:Nat) (i3:Int) (i4:Int) (x8:Int) (σ:Aa):DX k n p0 c1 c2 i3 i4 x8 σ=Hu k n p0 c1 c2 i3 i4 x8 σ:=by
 induction n generalizing p0 c1 c2 i3 i4 x8 σ with
 | zero=>simp only[DX,Ab]; rfl
 | succ n ih=>rw[Md,Ki,Hu]; simp only[ih,AZ,AQ,Bc,Ba,Bb,Be,Bd,AW,Bf,Ap,A7,Bg,Aj,Ar,Aq,Al]
noncomputable def MM (k:Nat) (x0:Option Addr × Nat × Nat) (x1:Int) (σ:Aa):Option (Value × Aa):=match k with
 | 0=>none
 | k+1=>(fS x0 fun x0=>fI x1 fun x1=>fL σ fun σ=>(Hu k k x0.1 x0.2.1 x0.2.2 x1 ((x0.2.1:Nat):Int) (0:Int) σ).bind fun r3=>if r3.1 = .exit 0 then (fI (-1:Int) fun y4=>some (.int .i64 y4,r3.2.2)) else if r3.1 = .ret then (Te r3.2.1 fun n5=>fI n5 fun y6=>some (.int .i64 y6,r3.2.2)) else none)
theorem Wp (k:Nat) (x0:Option Addr × Nat × Nat) (x1:Int) (σ:Aa):Ge k x0 x1 σ=MM k x0 x1 σ:=by
 cases k with
 | zero=>simp only[Ge,Ab]; rfl
 | succ k=>rw[Oh,M8,MM]; simp only[TY,AZ,AQ,Bc,Ba,Bb,Be,Bd,AW,Bf,Ap,A7,Bg,Aj,Ar,Aq,Al]
noncomputable def Ko (k:Nat) (x0:Option Addr × Nat × Nat) (x1:Int) (σ:Aa):Option (Value × Aa):=match k with
 | 0=>none
 | k+1=>(fS x0 fun x0=>fI x1 fun x1=>fL σ fun σ=>(MM k (x0.1,x0.2.1,x0.2.2) x1 σ).bind fun r1=>(B8 .i64 r1.1).bind fun n2=>fB (decide (n2≥(0:Int))) fun y3=>some (.bool y3,r1.2))
theorem TX (k:Nat) (x0:Option Addr × Nat × Nat) (x1:Int) (σ:Aa):EI k x0 x1 σ=Ko k x0 x1 σ:=by
 cases k with
 | zero=>simp only[EI,Ab]; rfl
 | succ k=>rw[Mc,Kh,Ko]; simp only[Wp,AZ,AQ,Bc,Ba,Bb,Be,Bd,AW,Bf,Ap,A7,Bg,Aj,Ar,Aq,Al]
noncomputable def TQ (k:Nat) (x0:Int) (x1:Int) (σ:Aa):Option (Value × Aa):=match k with
 | 0=>none
 | k+1=>(fI x0 fun x0=>fI x1 fun x1=>fL σ fun σ=>(bif decide (x0<(1:Int)) then some (true,σ) else some (decide (x0>(4096:Int)),σ)).bind fun r1=>(bif r1.1 then some (true,r1.2) else CF r1.2 (.cells [.int .i64 (1:Int),.int .i64 (2:Int),.int .i64 (4:Int),.int .i64 (8:Int)] 3 true) fun h2 s3=>(Ko k (some ⟨h2,0,none⟩,4,4) x1 s3).bind fun r4=>(Eh r4.1).bind fun b5=>some (!b5,r4.2)).bind fun r6=>bif r6.1 then (fI (1:Int) fun y7=>some (.tuple #[.pointer none,.int .i64 y7],r6.2)) else (if (64:Int)=0 then none else if 0≤(Ad ((Ad ((Ad ((Ad (x0*x1))+(64:Int)))-(1:Int))).tdiv (64:Int)))∧(Ad ((Ad ((Ad ((Ad (x0*x1))+(64:Int)))-(1:Int))).tdiv (64:Int)))≤(Ad ((Ad ((Ad ((Ad (x0*x1))+(64:Int)))-(1:Int))).tdiv (64:Int)))∧(Ad ((Ad ((Ad ((Ad (x0*x1))+(64:Int)))-(1:Int))).tdiv (64:Int)))*(8:Nat)≤2 ^ 40∧(Ad ((Ad ((Ad ((Ad (x0*x1))+(64:Int)))-(1:Int))).tdiv (64:Int)))≤2 ^ 40 then CF r6.2 (.cells (rep (Ad ((Ad ((Ad ((Ad (x0*x1))+(64:Int)))-(1:Int))).tdiv (64:Int))).toNat [.int .u64 (0:Int)]) 138 true) fun h8 s9=>CF s9 (.cells [.int .i64 x0,.int .i64 x1,.slice (some ⟨h8,0,none⟩) ((Ad ((Ad ((Ad ((Ad (x0*x1))+(64:Int)))-(1:Int))).tdiv (64:Int))).toNat) ((Ad ((Ad ((Ad ((Ad (x0*x1))+(64:Int)))-(1:Int))).tdiv (64:Int))).toNat)] 136 true) fun h10 s11=>fI (0:Int) fun y12=>some (.tuple #[.pointer (some ⟨h10,0,none⟩),.int .i64 y12],s11) else none))
theorem jB (k:Nat) (x0:Int) (x1:Int) (σ:Aa):M9 k x0 x1 σ=TQ k x0 x1 σ:=by
 cases k with
 | zero=>simp only[M9,Ab]; rfl
 | succ k=>rw[WA,WV,TQ]; simp only[TX,AZ,AQ,Bc,Ba,Bb,Be,Bd,AW,Bf,Ap,A7,Bg,Aj,Ar,Aq,Al]
noncomputable def TN (k:Nat) (x0:Int) (σ:Aa):Option (Value × Aa):=match k with
 | 0=>none
 | k+1=>(fI x0 fun x0=>fL σ fun σ=>(bif decide (x0<(2:Int)) then some (true,σ) else some (decide (x0>(64:Int)),σ)).bind fun r1=>bif r1.1 then (fI (1:Int) fun y2=>some (.tuple #[.pointer none,.int .i64 y2],r1.2)) else (if 0≤x0∧x0≤x0∧x0*(16:Nat)≤2 ^ 40∧x0≤2 ^ 40 then CF r1.2 (.cells (rep x0.toNat [.int .i64 (0:Int),.int .i64 (0:Int)]) 104 true) fun h3 s4=>if 0≤(Ad (x0*(64:Int)))∧(Ad (x0*(64:Int)))≤(Ad (x0*(64:Int)))∧(Ad (x0*(64:Int)))*(8:Nat)≤2 ^ 40∧(Ad (x0*(64:Int)))≤2 ^ 40 then CF s4 (.cells (rep (Ad (x0*(64:Int))).toNat [.int .i64 (0:Int)]) 3 true) fun h5 s6=>CF s6 (.map []) fun h7 s8=>CF s8 (.map []) fun h9 s10=>CF s10 (.cells [.slice (some ⟨h3,0,none⟩) x0.toNat x0.toNat,.slice (some ⟨h5,0,none⟩) ((Ad (x0*(64:Int))).toNat) ((Ad (x0*(64:Int))).toNat),.pointer none,.pointer none,.map (some h7),.map (some h9),.int .i64 (0:Int)] 94 true) fun h11 s12=>(Ep s12 h11 (0+1)).bind fun l13=>if (2:Int)=0 then none else (TQ k (Ad (((l13.2.1:Nat):Int).tdiv (2:Int))) (1:Int) s12).bind fun r14=>UE r14.1 fun p15 n16=>Wq r14.2 h11 (0+2) (.pointer p15) fun s17=>(Ep s17 h11 (0+1)).bind fun l18=>if (2:Int)=0 then none else (TQ k (Ad (((l18.2.1:Nat):Int).tdiv (2:Int))) (1:Int) s17).bind fun r19=>UE r19.1 fun p20 n21=>Wq r19.2 h11 (0+3) (.pointer p20) fun s22=>fI (0:Int) fun y23=>some (.tuple #[.pointer (some ⟨h11,0,none⟩),.int .i64 y23],s22) else none else none))
theorem iR (k:Nat) (x0:Int) (σ:Aa):GF k x0 σ=TN k x0 σ:=by
 cases k with
 | zero=>simp only[GF,Ab]; rfl
 | succ k=>rw[RU,Tn,TN]; simp only[jB,AZ,AQ,Bc,Ba,Bb,Be,Bd,AW,Bf,Ap,A7,Bg,Aj,Ar,Aq,Al]
noncomputable def NQ (k:Nat) (x0_0:Int) (x0_1:Int) (x0_2:Int) (σ:Aa):Option (Value × Aa):=match k with
 | 0=>none
 | k+1=>(fI x0_0 fun x0_0=>fI x0_1 fun x0_1=>fI x0_2 fun x0_2=>fL σ fun σ=>CF σ (.cells [.int .i64 x0_0,.int .i64 x0_1,.int .i64 x0_2] 33 true) fun h1 s2=>(Ai .i64 s2 h1 (0+0)).bind fun n3=>(bif decide (n3≥(0:Int)) then (Ai .i64 s2 h1 (0+0)).bind fun n4=>some (decide (n4≤(15:Int)),s2) else some (false,s2)).bind fun r5=>(bif r5.1 then (Ai .i64 r5.2 h1 (0+1)).bind fun n6=>some (decide (n6≥(0:Int)),r5.2) else some (false,r5.2)).bind fun r7=>(bif r7.1 then (Ai .i64 r7.2 h1 (0+1)).bind fun n8=>some (decide (n8≤(200:Int)),r7.2) else some (false,r7.2)).bind fun r9=>(bif r9.1 then (Ai .i64 r9.2 h1 (0+2)).bind fun n10=>some (decide (n10≥(0:Int)),r9.2) else some (false,r9.2)).bind fun r11=>(bif r11.1 then (Ai .i64 r11.2 h1 (0+2)).bind fun n12=>some (decide (n12≤(3:Int)),r11.2) else some (false,r11.2)).bind fun r13=>(bif r13.1 then (Ai .i64 r13.2 h1 (0+2)).bind fun n14=>(bif n14 != (1:Int) then some (true,r13.2) else (Ai .i64 r13.2 h1 (0+0)).bind fun n15=>some (decide (n15≥(1:Int)),r13.2)).bind fun r16=>some (r16.1,r16.2) else some (false,r13.2)).bind fun r17=>(bif r17.1 then (Ai .i64 r17.2 h1 (0+2)).bind fun n18=>(bif n18 != (2:Int) then some (true,r17.2) else (Ai .i64 r17.2 h1 (0+0)).bind fun n19=>some (decide (n19≥(2:Int)),r17.2)).bind fun r20=>some (r20.1,r20.2) else some (false,r17.2)).bind fun r21=>fB r21.1 fun y22=>some (.bool y22,r21.2))
theorem RZ (k:Nat) (x0_0:Int) (x0_1:Int) (x0_2:Int) (σ:Aa):Fv k x0_0 x0_1 x0_2 σ=NQ k x0_0 x0_1 x0_2 σ:=by
 cases k with
 | zero=>simp only[Fv,Ab]; rfl
 | succ k=>rw[Ul,To,NQ]; simp only[AZ,AQ,Bc,Ba,Bb,Be,Bd,AW,Bf,Ap,A7,Bg,Aj,Ar,Aq,Al]
noncomputable def NR (k:Nat) (x0_0:Int) (x0_1:Int) (x0_2:Int) (σ:Aa):Option (Value × Aa):=match k with
 | 0=>none
 | k+1=>(fI x0_0 fun x0_0=>fI x0_1 fun x0_1=>fI x0_2 fun x0_2=>fL σ fun σ=>CF σ (.cells [.int .i64 x0_0,.int .i64 x0_1,.int .i64 x0_2] 33 true) fun h1 s2=>(Ai .i64 s2 h1 0).bind fun n3=>(Ai .i64 s2 h1 (0+1)).bind fun n4=>(Ai .i64 s2 h1 (0+1+1)).bind fun n5=>(NQ k n3 n4 n5 s2).bind fun r6=>(Eh r6.1).bind fun b7=>bif !b7 then (fI (0:Int) fun y8=>some (.int .i64 y8,r6.2)) else ((Ai .i64 r6.2 h1 (0+0)).bind fun n9=>(Ai .i64 r6.2 h1 (0+1)).bind fun n10=>if (2:Int)=0 then none else fI (Ad ((Ad ((Ad ((Ad ((Ad ((2:Int)+n9))+n10))+(1:Int))).tdiv (2:Int)))*(2:Int))) fun y11=>some (.int .i64 y11,r6.2)))
theorem Sb (k:Nat) (x0_0:Int) (x0_1:Int) (x0_2:Int) (σ:Aa):E4 k x0_0 x0_1 x0_2 σ=NR k x0_0 x0_1 x0_2 σ:=by
 cases k with
 | zero=>simp only[E4,Ab]; rfl
 | succ k=>rw[Um,Tp,NR]; simp only[RZ,AZ,AQ,Bc,Ba,Bb,Be,Bd,AW,Bf,Ap,A7,Bg,Aj,Ar,Aq,Al]
noncomputable def DQ (k:Nat) (x0:Option Addr) (σ:Aa):Option (Value × Aa):=match k with
 | 0=>none
 | k+1=>(fP x0 fun x0=>fL σ fun σ=>(UH P 25 (.pointer x0) (.pointer none)).bind fun e1=>(bif !e1 then x0.bind fun a2=>(Ep σ a2.block (a2.off+0)).bind fun l3=>some (decide (((l3.2.1:Nat):Int)>(0:Int)),σ) else some (false,σ)).bind fun r4=>fB r4.1 fun y5=>some (.bool y5,r4.2))
theorem Ec (k:Nat) (x0:Option Addr) (σ:Aa):A8 k x0 σ=DQ k x0 σ:=by
 cases k with
 | zero=>simp only[A8,Ab]; rfl
 | succ k=>rw[PO,Oy,DQ]; simp only[AZ,AQ,Bc,Ba,Bb,Be,Bd,AW,Bf,Ap,A7,Bg,Aj,Ar,Aq,Al]
noncomputable def Ex (k:Nat) (x0:Option Addr) (σ:Aa):Option (Value × Aa):=match k with
 | 0=>none
 | k+1=>(fP x0 fun x0=>fL σ fun σ=>(DQ k x0 σ).bind fun r1=>(Eh r1.1).bind fun b2=>bif !b2 then (fI (0:Int) fun y3=>some (.int .i64 y3,r1.2)) else (x0.bind fun a4=>(Ep r1.2 a4.block (a4.off+0)).bind fun l5=>fI ((l5.2.1:Nat):Int) fun y6=>some (.int .i64 y6,r1.2)))
theorem Df (k:Nat) (x0:Option Addr) (σ:Aa):AH k x0 σ=Ex k x0 σ:=by
 cases k with
 | zero=>simp only[AH,Ab]; rfl
 | succ k=>rw[Ob,Mz,Ex]; simp only[Ec,AZ,AQ,Bc,Ba,Bb,Be,Bd,AW,Bf,Ap,A7,Bg,Aj,Ar,Aq,Al]
noncomputable def Kx (k:Nat) (x0:Option Addr) (x1:Int) (σ:Aa):Option (Value × Aa):=match k with
 | 0=>none
 | k+1=>(fP x0 fun x0=>fI x1 fun x1=>fL σ fun σ=>(bif decide (x1<(0:Int)) then some (true,σ) else (Ex k x0 σ).bind fun r1=>(B8 .i64 r1.1).bind fun n2=>some (decide (x1≥n2),r1.2)).bind fun r3=>bif r3.1 then (fI (-1:Int) fun y4=>some (.int .i64 y4,r3.2)) else (x0.bind fun a5=>(Ep r3.2 a5.block (a5.off+0)).bind fun l6=>if 0≤x1∧x1<(l6.2.1:Nat) then l6.1.bind fun a7=>(Ai .i64 r3.2 a7.block (a7.off+x1.toNat*2+1)).bind fun n8=>fI n8 fun y9=>some (.int .i64 y9,r3.2) else none))
theorem MB (k:Nat) (x0:Option Addr) (x1:Int) (σ:Aa):Bp k x0 x1 σ=Kx k x0 x1 σ:=by
 cases k with
 | zero=>simp only[Bp,Ab]; rfl
 | succ k=>rw[KO,Kq,Kx]; simp only[Df,AZ,AQ,Bc,Ba,Bb,Be,Bd,AW,Bf,Ap,A7,Bg,Aj,Ar,Aq,Al]
noncomputable def IE (k n:Nat) (p0:Option Addr) (i1:Int) (x5:Int) (σ:Aa):Option Ay:=match n with
 | 0=>none
 | n+1=>(fP p0 fun p0=>fI i1 fun i1=>fI x5 fun x5=>fL σ fun σ=>p0.bind fun a1=>(Ep σ a1.block (a1.off+0)).bind fun l2=>if 0≤i1∧i1<(l2.2.1:Nat) then l2.1.bind fun a3=>(Ai .i64 σ a3.block (a3.off+i1.toNat*2+0)).bind fun n4=>(bif n4 == (2:Int) then p0.bind fun a5=>(Ep σ a5.block (a5.off+0)).bind fun l6=>some (decide ((Ad (i1+x5))<((l6.2.1:Nat):Int)),σ) else some (false,σ)).bind fun r7=>(bif r7.1 then p0.bind fun a8=>(Ep r7.2 a8.block (a8.off+0)).bind fun l9=>if 0≤(Ad (i1+x5))∧(Ad (i1+x5))<(l9.2.1:Nat) then l9.1.bind fun a10=>(Ai .i64 r7.2 a10.block (a10.off+(Ad (i1+x5)).toNat*2+0)).bind fun n11=>some (n11 == (3:Int),r7.2) else none else some (false,r7.2)).bind fun r12=>bif r12.1 then (IE k n p0 i1 (Ad (x5+(1:Int))) r12.2) else (some (.exit 0,[.int .i64 x5],r12.2)) else none)
termination_by structural n
theorem Vw (k n:Nat) (p0:Option Addr) (i1:Int) (x5:Int) (σ:Aa):DR k n p0 i1 x5 σ=IE k n p0 i1 x5 σ:=by
 induction n generalizing p0 i1 x5 σ with
 | zero=>simp only[DR,Ab]; rfl
 | succ n ih=>rw[J8,I0,IE]; simp only[ih,AZ,AQ,Bc,Ba,Bb,Be,Bd,AW,Bf,Ap,A7,Bg,Aj,Ar,Aq,Al]
noncomputable def OL (k:Nat) (x0:Option Addr) (x1:Int) (σ:Aa):Option (Value × Aa):=match k with
 | 0=>none
 | k+1=>(fP x0 fun x0=>fI x1 fun x1=>fL σ fun σ=>(IE k k x0 x1 (1:Int) σ).bind fun r13=>if r13.1 = .exit 0 then (Te r13.2.1 fun n14=>fI n14 fun y15=>some (.int .i64 y15,r13.2.2)) else none)
theorem R9 (k:Nat) (x0:Option Addr) (x1:Int) (σ:Aa):Dj k x0 x1 σ=OL k x0 x1 σ:=by
 cases k with
 | zero=>simp only[Dj,Ab]; rfl
 | succ k=>rw[PS,O0,OL]; simp only[Vw,AZ,AQ,Bc,Ba,Bb,Be,Bd,AW,Bf,Ap,A7,Bg,Aj,Ar,Aq,Al]
noncomputable def TO (k:Nat) (x0:Int) (σ:Aa):Option (Value × Aa):=match k with
 | 0=>none
 | k+1=>(fI x0 fun x0=>fL σ fun σ=>CF σ (.cells [.int .i64 (0:Int),.int .i64 (0:Int),.int .i64 (0:Int)] 33 true) fun h1 s2=>if (16:Int)=0 then none else if (4096:Int)=0 then none else if (16:Int)=0 then none else if (4096:Int)=0 then none else Ua s2 h1 0 [.int .i64 (x0.tmod (16:Int)),.int .i64 (Ad ((x0.tmod (4096:Int)).tdiv (16:Int))),.int .i64 (Ad (x0.tdiv (4096:Int)))] fun s3=>(((TC s3 h1 0 3).bind fun v4=>some (.agg v4.toArray)).bind fun v5=>some [v5]).bind fun vs6=>some (Ol vs6,s3))
theorem dA (k:Nat) (x0:Int) (σ:Aa):GP k x0 σ=TO k x0 σ:=by
 cases k with
 | zero=>simp only[GP,Ab]; rfl
 | succ k=>rw[Un,Tq,TO]; simp only[AZ,AQ,Bc,Ba,Bb,Be,Bd,AW,Bf,Ap,A7,Bg,Aj,Ar,Aq,Al]
noncomputable def He (k:Nat) (x0:Option Addr) (x1:Int) (σ:Aa):Option (Value × Aa):=match k with
 | 0=>none
 | k+1=>(fP x0 fun x0=>fI x1 fun x1=>fL σ fun σ=>x0.bind fun a1=>(Ep σ a1.block (a1.off+1)).bind fun l2=>if 0≤(Ad (x1+(1:Int)))∧(Ad (x1+(1:Int)))<(l2.2.1:Nat) then l2.1.bind fun a3=>(Ai .i64 σ a3.block (a3.off+(Ad (x1+(1:Int))).toNat*1)).bind fun n4=>(TO k n4 σ).bind fun r5=>dK r5.1 fun n6 n7 n8=>(NR k n6 n7 n8 r5.2).bind fun r9=>(B8 .i64 r9.1).bind fun n10=>fI n10 fun y11=>some (.int .i64 y11,r9.2) else none)
theorem F0 (k:Nat) (x0:Option Addr) (x1:Int) (σ:Aa):BX k x0 x1 σ=He k x0 x1 σ:=by
 cases k with
 | zero=>simp only[BX,Ab]; rfl
 | succ k=>rw[PQ,Oz,He]; simp only[Sb,dA,AZ,AQ,Bc,Ba,Bb,Be,Bd,AW,Bf,Ap,A7,Bg,Aj,Ar,Aq,Al]
noncomputable def G6 (k:Nat) (x0:Option Addr) (σ:Aa):Option (Value × Aa):=match k with
 | 0=>none
 | k+1=>(fP x0 fun x0=>fL σ fun σ=>(UH P 92 (.pointer x0) (.pointer none)).bind fun e1=>(bif !e1 then x0.bind fun a2=>(Ai .i64 σ a2.block (a2.off+0)).bind fun n3=>some (decide (n3>(0:Int)),σ) else some (false,σ)).bind fun r4=>fB r4.1 fun y5=>some (.bool y5,r4.2))
theorem Gh (k:Nat) (x0:Option Addr) (σ:Aa):Ca k x0 σ=G6 k x0 σ:=by
 cases k with
 | zero=>simp only[Ca,Ab]; rfl
 | succ k=>rw[Pq,N5,G6]; simp only[AZ,AQ,Bc,Ba,Bb,Be,Bd,AW,Bf,Ap,A7,Bg,Aj,Ar,Aq,Al]
noncomputable def Ii (k:Nat) (x0:Option Addr) (σ:Aa):Option (Value × Aa):=match k with
 | 0=>none
 | k+1=>(fP x0 fun x0=>fL σ fun σ=>x0.bind fun a1=>(Ai .i64 σ a1.block (a1.off+1)).bind fun n2=>if n2<0 then none else fI (Ad ((Ad ((1:Int)*2 ^ (min n2.toNat 64)))-(1:Int))) fun y3=>some (.int .i64 y3,σ))
theorem MN (k:Nat) (x0:Option Addr) (σ:Aa):CM k x0 σ=Ii k x0 σ:=by
 cases k with
 | zero=>simp only[CM,Ab]; rfl
 | succ k=>rw[Pr,N6,Ii]; simp only[AZ,AQ,Bc,Ba,Bb,Be,Bd,AW,Bf,Ap,A7,Bg,Aj,Ar,Aq,Al]
noncomputable def Jh (k:Nat) (x0:Option Addr) (x1:Int) (σ:Aa):Option (Value × Aa):=match k with
 | 0=>none
 | k+1=>(fP x0 fun x0=>fI x1 fun x1=>fL σ fun σ=>x0.bind fun a1=>(Ai .i64 σ a1.block (a1.off+1)).bind fun n2=>x0.bind fun a3=>(Ep σ a3.block (a3.off+2)).bind fun l4=>if (64:Int)=0 then none else if 0≤(Ad ((Ad (x1*n2)).tdiv (64:Int)))∧(Ad ((Ad (x1*n2)).tdiv (64:Int)))<(l4.2.1:Nat) then l4.1.bind fun a5=>(Ai .u64 σ a5.block (a5.off+(Ad ((Ad (x1*n2)).tdiv (64:Int))).toNat*1)).bind fun n6=>if (64:Int)=0 then none else if ((Ad (x1*n2)).tmod (64:Int))<0 then none else (Ii k x0 σ).bind fun r7=>(B8 .i64 r7.1).bind fun n8=>fI (Ad ((BitVec.ofInt 64 (Ad (n6.fdiv (2 ^ (min ((Ad (x1*n2)).tmod (64:Int)).toNat 64)))) &&& BitVec.ofInt 64 n8).toNat)) fun y9=>some (.int .i64 y9,r7.2) else none)
theorem Ij (k:Nat) (x0:Option Addr) (x1:Int) (σ:Aa):Dl k x0 x1 σ=Jh k x0 x1 σ:=by
 cases k with
 | zero=>simp only[Dl,Ab]; rfl
 | succ k=>rw[PX,O8,Jh]; simp only[MN,AZ,AQ,Bc,Ba,Bb,Be,Bd,AW,Bf,Ap,A7,Bg,Aj,Ar,Aq,Al]
noncomputable def Ig (k n:Nat) (p0:Option Addr) (i1:Int) (x8:Int) (σ:Aa):Option Ay:=match n with
 | 0=>none
 | n+1=>(fP p0 fun p0=>fI i1 fun i1=>fI x8 fun x8=>fL σ fun σ=>bif decide (x8≥(0:Int)) then ((Jh k p0 x8 σ).bind fun r7=>(B8 .i64 r7.1).bind fun n8=>bif n8 == i1 then (some (.ret,[.int .i64 x8,.int .i64 (0:Int)],r7.2)) else (Ig k n p0 i1 (Ad (x8-(1:Int))) r7.2)) else (some (.exit 0,[],σ)))
termination_by structural n
theorem UF (k n:Nat) (p0:Option Addr) (i1:Int) (x8:Int) (σ:Aa):Dy k n p0 i1 x8 σ=Ig k n p0 i1 x8 σ:=by
 induction n generalizing p0 i1 x8 σ with
 | zero=>simp only[Dy,Ab]; rfl
 | succ n ih=>rw[Jc,HO,Ig]; simp only[Gh,Ij,ih,AZ,AQ,Bc,Ba,Bb,Be,Bd,AW,Bf,Ap,A7,Bg,Aj,Ar,Aq,Al]
noncomputable def NS (k:Nat) (x0:Option Addr) (x1:Int) (x2:Int) (σ:Aa):Option (Value × Aa):=match k with
 | 0=>none
 | k+1=>(fP x0 fun x0=>fI x1 fun x1=>fI x2 fun x2=>fL σ fun σ=>(G6 k x0 σ).bind fun r1=>(Eh r1.1).bind fun b2=>bif !b2 then (fI (0:Int) fun y3=>fI (5:Int) fun y4=>some (.tuple #[.int .i64 y3,.int .i64 y4],r1.2)) else (x0.bind fun a5=>(Ai .i64 r1.2 a5.block (a5.off+0)).bind fun n6=>(Ig k k x0 x2 (Ad ((if n6<(if (0:Int)>x1 then (0:Int) else x1) then n6 else (if (0:Int)>x1 then (0:Int) else x1))-(1:Int))) r1.2).bind fun r9=>if r9.1 = .exit 0 then (fI (0:Int) fun y10=>fI (4:Int) fun y11=>some (.tuple #[.int .i64 y10,.int .i64 y11],r9.2.2)) else if r9.1 = .ret then (Tf r9.2.1 fun n12 n13=>fI n12 fun y14=>fI n13 fun y15=>some (.tuple #[.int .i64 y14,.int .i64 y15],r9.2.2)) else none))
theorem Xq (k:Nat) (x0:Option Addr) (x1:Int) (x2:Int) (σ:Aa):Fz k x0 x1 x2 σ=NS k x0 x1 x2 σ:=by
 cases k with
 | zero=>simp only[Fz,Ab]; rfl
 | succ k=>rw[Po,N3,NS]; simp only[Gh,Ij,UF,AZ,AQ,Bc,Ba,Bb,Be,Bd,AW,Bf,Ap,A7,Bg,Aj,Ar,Aq,Al]
noncomputable def OH (k:Nat) (x0:Option Addr) (x1:Int) (σ:Aa):Option (Value × Aa):=match k with
 | 0=>none
 | k+1=>(fP x0 fun x0=>fI x1 fun x1=>fL σ fun σ=>(DQ k x0 σ).bind fun r1=>(Eh r1.1).bind fun b2=>bif !b2 then (fI (0:Int) fun y3=>fI (5:Int) fun y4=>some (.tuple #[.int .i64 y3,.int .i64 y4],r1.2)) else ((bif decide (x1<(0:Int)) then some (true,r1.2) else x0.bind fun a5=>(Ep r1.2 a5.block (a5.off+1)).bind fun l6=>some (decide (x1≥((l6.2.1:Nat):Int)),r1.2)).bind fun r7=>bif r7.1 then (fI (0:Int) fun y8=>fI (4:Int) fun y9=>some (.tuple #[.int .i64 y8,.int .i64 y9],r7.2)) else (x0.bind fun a10=>(JC r7.2 a10.block (a10.off+2)).bind fun p11=>if (2:Int)=0 then none else (NS k p11 (Ad ((Ad (x1.tdiv (2:Int)))+(1:Int))) (1:Int) r7.2).bind fun r12=>Gq r12.1 fun n13 n14=>(bif n14 != (0:Int) then some (true,r12.2) else (He k x0 (Ad ((2:Int)*n13)) r12.2).bind fun r15=>(B8 .i64 r15.1).bind fun n16=>some (decide (x1≥(Ad ((Ad ((2:Int)*n13))+n16))),r15.2)).bind fun r17=>bif r17.1 then (fI (0:Int) fun y18=>fI (4:Int) fun y19=>some (.tuple #[.int .i64 y18,.int .i64 y19],r17.2)) else (fI (Ad ((2:Int)*n13)) fun y20=>fI (0:Int) fun y21=>some (.tuple #[.int .i64 y20,.int .i64 y21],r17.2)))))
theorem R8 (k:Nat) (x0:Option Addr) (x1:Int) (σ:Aa):FV k x0 x1 σ=OH k x0 x1 σ:=by
 cases k with
 | zero=>simp only[FV,Ab]; rfl
 | succ k=>rw[PL,Ov,OH]; simp only[Ec,F0,Xq,AZ,AQ,Bc,Ba,Bb,Be,Bd,AW,Bf,Ap,A7,Bg,Aj,Ar,Aq,Al]
noncomputable def ID (k n:Nat) (p0:Option Addr) (i1:Int) (i2:Int) (i3:Int) (x10:Int) (σ:Aa):Option Ay:=match n with
 | 0=>none
 | n+1=>(fP p0 fun p0=>fI i1 fun i1=>fI i2 fun i2=>fI i3 fun i3=>fI x10 fun x10=>fL σ fun σ=>bif decide (x10<(Ad (i1+i2))) then ((OH k p0 x10 σ).bind fun r20=>Gq r20.1 fun n21 n22=>(bif n22 == (0:Int) then some (n21 != i3,r20.2) else some (false,r20.2)).bind fun r23=>bif r23.1 then (some (.ret,[.int .i64 (8:Int)],r23.2)) else (ID k n p0 i1 i2 i3 (Ad (x10+(2:Int))) r23.2)) else (some (.exit 0,[],σ)))
termination_by structural n
theorem Vv (k n:Nat) (p0:Option Addr) (i1:Int) (i2:Int) (i3:Int) (x10:Int) (σ:Aa):De k n p0 i1 i2 i3 x10 σ=ID k n p0 i1 i2 i3 x10 σ:=by
 induction n generalizing p0 i1 i2 i3 x10 σ with
 | zero=>simp only[De,Ab]; rfl
 | succ n ih=>rw[J7,Iz,ID]; simp only[R9,R8,ih,AZ,AQ,Bc,Ba,Bb,Be,Bd,AW,Bf,Ap,A7,Bg,Aj,Ar,Aq,Al]
noncomputable def OK (k:Nat) (x0:Option Addr) (x1:Int) (x2:Int) (x3:Int) (σ:Aa):Option (Value × Aa):=match k with
 | 0=>none
 | k+1=>(fP x0 fun x0=>fI x1 fun x1=>fI x2 fun x2=>fI x3 fun x3=>fL σ fun σ=>(bif decide (x1<(0:Int)) then some (true,σ) else x0.bind fun a1=>(Ep σ a1.block (a1.off+1)).bind fun l2=>some (decide (x1≥((l2.2.1:Nat):Int)),σ)).bind fun r3=>(bif r3.1 then some (true,r3.2) else if (2:Int)=0 then none else some ((x1.tmod (2:Int)) != (0:Int),r3.2)).bind fun r4=>bif r4.1 then (fI (1:Int) fun y5=>some (.int .i64 y5,r4.2)) else (if (64:Int)=0 then none else (bif decide (x2≤(32:Int)) then (x0.bind fun a6=>(Ep r4.2 a6.block (a6.off+0)).bind fun l7=>if 0≤(Ad (x1.tdiv (64:Int)))∧(Ad (x1.tdiv (64:Int)))<(l7.2.1:Nat) then l7.1.bind fun a8=>(Ai .i64 r4.2 a8.block (a8.off+(Ad (x1.tdiv (64:Int))).toNat*2+0)).bind fun n9=>(bif n9 != (1:Int) then some (true,r4.2) else if (64:Int)=0 then none else some ((Ad ((Ad ((Ad (x1+x2))-(1:Int))).tdiv (64:Int))) != (Ad (x1.tdiv (64:Int))),r4.2)).bind fun r10=>bif r10.1 then (some (.ret,[.int .i64 (5:Int)],r10.2)) else (some (.normal,[],r10.2)) else none) else (x0.bind fun a11=>(Ep r4.2 a11.block (a11.off+0)).bind fun l12=>if 0≤(Ad (x1.tdiv (64:Int)))∧(Ad (x1.tdiv (64:Int)))<(l12.2.1:Nat) then l12.1.bind fun a13=>(Ai .i64 r4.2 a13.block (a13.off+(Ad (x1.tdiv (64:Int))).toNat*2+0)).bind fun n14=>(bif n14 != (2:Int) then some (true,r4.2) else if (64:Int)=0 then none else some ((x1.tmod (64:Int)) != (0:Int),r4.2)).bind fun r15=>(bif r15.1 then some (true,r15.2) else (OL k x0 (Ad (x1.tdiv (64:Int))) r15.2).bind fun r16=>(B8 .i64 r16.1).bind fun n17=>if (64:Int)=0 then none else some (n17 != (Ad ((Ad ((Ad (x2+(64:Int)))-(1:Int))).tdiv (64:Int))),r16.2)).bind fun r18=>bif r18.1 then (some (.ret,[.int .i64 (5:Int)],r18.2)) else (some (.normal,[],r18.2)) else none):Option Ay).bind fun r19=>if r19.1 = .normal then ((ID k k x0 x1 x2 x3 x1 r19.2.2).bind fun r24=>if r24.1 = .exit 0 then (fI (0:Int) fun y25=>some (.int .i64 y25,r24.2.2)) else if r24.1 = .ret then (Te r24.2.1 fun n26=>fI n26 fun y27=>some (.int .i64 y27,r24.2.2)) else none) else if r19.1 = .ret then (Te r19.2.1 fun n28=>fI n28 fun y29=>some (.int .i64 y29,r19.2.2)) else none))
theorem XN (k:Nat) (x0:Option Addr) (x1:Int) (x2:Int) (x3:Int) (σ:Aa):FW k x0 x1 x2 x3 σ=OK k x0 x1 x2 x3 σ:=by
 cases k with
 | zero=>simp only[FW,Ab]; rfl
 | succ k=>rw[PN,Ox,OK]; simp only[R9,R8,Vv,AZ,AQ,Bc,Ba,Bb,Be,Bd,AW,Bf,Ap,A7,Bg,Aj,Ar,Aq,Al]
noncomputable def Sg (k:Nat) (x0_0:Int) (x0_1:Int) (x0_2:Int) (σ:Aa):Option (Value × Aa):=match k with
 | 0=>none
 | k+1=>(fI x0_0 fun x0_0=>fI x0_1 fun x0_1=>fI x0_2 fun x0_2=>fL σ fun σ=>CF σ (.cells [.int .i64 x0_0,.int .i64 x0_1,.int .i64 x0_2] 33 true) fun h1 s2=>(Ai .i64 s2 h1 (0+0)).bind fun n3=>(Ai .i64 s2 h1 (0+1)).bind fun n4=>(Ai .i64 s2 h1 (0+2)).bind fun n5=>fI (Ad ((Ad (n3+(Ad ((16:Int)*n4))))+(Ad ((4096:Int)*n5)))) fun y6=>some (.int .i64 y6,s2))
theorem bV (k:Nat) (x0_0:Int) (x0_1:Int) (x0_2:Int) (σ:Aa):Ip k x0_0 x0_1 x0_2 σ=Sg k x0_0 x0_1 x0_2 σ:=by
 cases k with
 | zero=>simp only[Ip,Ab]; rfl
 | succ k=>rw[SC,RT,Sg]; simp only[AZ,AQ,Bc,Ba,Bb,Be,Bd,AW,Bf,Ap,A7,Bg,Aj,Ar,Aq,Al]
noncomputable def JK (k:Nat) (x0:Option Addr) (x1:Int) (σ:Aa):Option (Value × Aa):=match k with
 | 0=>none
 | k+1=>(fP x0 fun x0=>fI x1 fun x1=>fL σ fun σ=>(G6 k x0 σ).bind fun r1=>(Eh r1.1).bind fun b2=>(bif b2 then some (decide (x1≥(0:Int)),r1.2) else some (false,r1.2)).bind fun r3=>(bif r3.1 then x0.bind fun a4=>(Ai .i64 r3.2 a4.block (a4.off+0)).bind fun n5=>some (decide (x1<n5),r3.2) else some (false,r3.2)).bind fun r6=>fB r6.1 fun y7=>some (.bool y7,r6.2))
theorem Qa (k:Nat) (x0:Option Addr) (x1:Int) (σ:Aa):D8 k x0 x1 σ=JK k x0 x1 σ:=by
 cases k with
 | zero=>simp only[D8,Ab]; rfl
 | succ k=>rw[Of,M6,JK]; simp only[Gh,AZ,AQ,Bc,Ba,Bb,Be,Bd,AW,Bf,Ap,A7,Bg,Aj,Ar,Aq,Al]
noncomputable def ML (k:Nat) (x0:Option Addr) (x1:Int) (σ:Aa):Option (Value × Aa):=match k with
 | 0=>none
 | k+1=>(fP x0 fun x0=>fI x1 fun x1=>fL σ fun σ=>(bif decide (x1≥(0:Int)) then (Ii k x0 σ).bind fun r1=>(B8 .i64 r1.1).bind fun n2=>some (decide (x1≤n2),r1.2) else some (false,σ)).bind fun r3=>fB r3.1 fun y4=>some (.bool y4,r3.2))
theorem Wo (k:Nat) (x0:Option Addr) (x1:Int) (σ:Aa):ET k x0 x1 σ=ML k x0 x1 σ:=by
 cases k with
 | zero=>simp only[ET,Ab]; rfl
 | succ k=>rw[Og,M7,ML]; simp only[MN,AZ,AQ,Bc,Ba,Bb,Be,Bd,AW,Bf,Ap,A7,Bg,Aj,Ar,Aq,Al]
noncomputable def Km (k:Nat) (x0:Int) (c0:Option Addr) (σ:Aa):Option (Value × Aa):=match k with
 | 0=>none
 | k+1=>(fI x0 fun x0=>fP c0 fun c0=>fL σ fun σ=>c0.bind fun a1=>(JC σ a1.block a1.off).bind fun p2=>(ML k p2 x0 σ).bind fun r3=>(Eh r3.1).bind fun b4=>fB (!b4) fun y5=>some (.bool y5,r3.2))
theorem TS (k:Nat) (x0:Int) (c0:Option Addr) (σ:Aa):C3 k x0 c0 σ=Km k x0 c0 σ:=by
 cases k with
 | zero=>simp only[C3,Ab]; rfl
 | succ k=>rw[Mb,Kg,Km]; simp only[Wo,AZ,AQ,Bc,Ba,Bb,Be,Bd,AW,Bf,Ap,A7,Bg,Aj,Ar,Aq,Al]
theorem Tb (k:Nat) (x0:Int) (c0:Option Addr) (σ:Aa):fn P (XK Kn.b) H k 179 [.int .i64 x0,.pointer c0] σ=C3 k x0 c0 σ:=by
 simp only[C3,Ab]
noncomputable def RK (k:Nat) (n:FuncId) (l:List Value) (σ:Aa):Option (Value × Aa):=
 if n=179 then (match l with
  | [.int .i64 y1,.pointer y2]=>Km k y1 y2 σ
  | l=>fn P (XK Kn.b) H k 179 l σ) else
 fn P (XK Kn.b) H k n l σ
theorem gk (k:Nat) (n:FuncId) (l:List Value) (σ:Aa):fn P (XK Kn.b) H k n l σ=RK k n l σ:=by
 unfold RK
 split
 ·rename_i hn; subst hn
  split
  ·exact (Tb k _ _ σ).trans (TS k _ _ σ)
  ·rfl
 rfl
noncomputable def VG (k:Nat) (f:Value) (args:List Value) (σ:Aa):Option (Value × Aa):=match f with
 | .func (.func n) first cap=>RK k n (first.toList++args++cap.toList) σ
 | .func (.method nm) first _=>(match first.toList++args with
   | .iface t v::rest=>(TD P t nm).bind fun n=>RK k n (v::rest) σ
   | _=>none)
 | _=>none
theorem XA (k:Nat) (f:Value) (args:List Value) (σ:Aa):MX k f args σ=VG k f args σ:=by
 simp only[MX,Ab]
 unfold OT VG
 simp only[gk]
 rfl
noncomputable def FR (k n:Nat) (p0:Option Addr) (c1:Nat) (c2:Nat) (v3:Value) (i4:Int) (x8:Int) (σ:Aa):Option Ay:=match n with
 | 0=>none
 | n+1=>(fP p0 fun p0=>fN c1 fun c1=>fN c2 fun c2=>fI i4 fun i4=>fI x8 fun x8=>fL σ fun σ=>bif decide (x8<i4) then (if 0≤x8∧x8<(c1:Nat) then p0.bind fun a1=>(Ai .i64 σ a1.block (a1.off+x8.toNat*1)).bind fun n2=>(VG k v3 [.int .i64 n2] σ).bind fun r3=>(Eh r3.1).bind fun b4=>bif b4 then (some (.ret,[.int .i64 x8],r3.2)) else (FR k n p0 c1 c2 v3 i4 (Ad (x8+(1:Int))) r3.2) else none) else (some (.exit 0,[],σ)))
termination_by structural n
theorem Rc (k n:Nat) (p0:Option Addr) (c1:Nat) (c2:Nat) (v3:Value) (i4:Int) (x8:Int) (σ:Aa):CC k n p0 c1 c2 v3 i4 x8 σ=FR k n p0 c1 c2 v3 i4 x8 σ:=by
 induction n generalizing p0 c1 c2 v3 i4 x8 σ with
 | zero=>simp only[CC,Ab]; rfl
 | succ n ih=>rw[GI,FJ,FR]; simp only[XA,ih,AZ,AQ,Bc,Ba,Bb,Be,Bd,AW,Bf,Ap,A7,Bg,Aj,Ar,Aq,Al]
noncomputable def JL (k:Nat) (x0:Option Addr × Nat × Nat) (x1:Value) (σ:Aa):Option (Value × Aa):=match k with
 | 0=>none
 | k+1=>(fS x0 fun x0=>fL σ fun σ=>(FR k k x0.1 x0.2.1 x0.2.2 x1 ((x0.2.1:Nat):Int) (0:Int) σ).bind fun r5=>if r5.1 = .exit 0 then (fI (-1:Int) fun y6=>some (.int .i64 y6,r5.2.2)) else if r5.1 = .ret then (Te r5.2.1 fun n7=>fI n7 fun y8=>some (.int .i64 y8,r5.2.2)) else none)
theorem Tc (k:Nat) (x0:Option Addr × Nat × Nat) (x1:Value) (σ:Aa):E8 k x0 x1 σ=JL k x0 x1 σ:=by
 cases k with
 | zero=>simp only[E8,Ab]; rfl
 | succ k=>rw[L0,J1,JL]; simp only[XA,Rc,AZ,AQ,Bc,Ba,Bb,Be,Bd,AW,Bf,Ap,A7,Bg,Aj,Ar,Aq,Al]
noncomputable def HA (k:Nat) (x0:Option Addr × Nat × Nat) (x1:Value) (σ:Aa):Option (Value × Aa):=match k with
 | 0=>none
 | k+1=>(fS x0 fun x0=>fL σ fun σ=>(JL k (x0.1,x0.2.1,x0.2.2) (x1) σ).bind fun r1=>(B8 .i64 r1.1).bind fun n2=>fB (decide (n2≥(0:Int))) fun y3=>some (.bool y3,r1.2))
theorem Rb (k:Nat) (x0:Option Addr × Nat × Nat) (x1:Value) (σ:Aa):D1 k x0 x1 σ=HA k x0 x1 σ:=by
 cases k with
 | zero=>simp only[D1,Ab]; rfl
 | succ k=>rw[JP,H9,HA]; simp only[Tc,AZ,AQ,Bc,Ba,Bb,Be,Bd,AW,Bf,Ap,A7,Bg,Aj,Ar,Aq,Al]
noncomputable def MK (k:Nat) (x0:Option Addr) (x1:Int) (x2:Option Addr × Nat × Nat) (σ:Aa):Option (Value × Aa):=match k with
 | 0=>none
 | k+1=>(fP x0 fun x0=>fI x1 fun x1=>fS x2 fun x2=>fL σ fun σ=>CF σ (.cells [.pointer x0] 92 true) fun h1 s2=>(JC s2 h1 0).bind fun p3=>(G6 k p3 s2).bind fun r4=>(Eh r4.1).bind fun b5=>bif !b5 then (fI (5:Int) fun y6=>some (.int .i64 y6,r4.2)) else ((JC r4.2 h1 0).bind fun p7=>(JK k p7 x1 r4.2).bind fun r8=>(Eh r8.1).bind fun b9=>(bif !b9 then some (true,r8.2) else (HA k (x2.1,x2.2.1,x2.2.2) (.func (.func 179) #[] #[.pointer (some ⟨h1,0,none⟩)]) r8.2).bind fun r10=>(Eh r10.1).bind fun b11=>some (b11,r10.2)).bind fun r12=>bif r12.1 then (fI (1:Int) fun y13=>some (.int .i64 y13,r12.2)) else (fI (0:Int) fun y14=>some (.int .i64 y14,r12.2))))
theorem Wn (k:Nat) (x0:Option Addr) (x1:Int) (x2:Option Addr × Nat × Nat) (σ:Aa):ES k x0 x1 x2 σ=MK k x0 x1 x2 σ:=by
 cases k with
 | zero=>simp only[ES,Ab]; rfl
 | succ k=>rw[Oe,M5,MK]; simp only[Gh,Qa,Rb,AZ,AQ,Bc,Ba,Bb,Be,Bd,AW,Bf,Ap,A7,Bg,Aj,Ar,Aq,Al]
noncomputable def OO (k:Nat) (x0:Option Addr) (x1:Int) (x2:Int) (σ:Aa):Option (Value × Aa):=match k with
 | 0=>none
 | k+1=>(fP x0 fun x0=>fI x1 fun x1=>fI x2 fun x2=>fL σ fun σ=>x0.bind fun a1=>(Ai .i64 σ a1.block (a1.off+1)).bind fun n2=>x0.bind fun a3=>(Ep σ a3.block (a3.off+2)).bind fun l4=>if (64:Int)=0 then none else if 0≤(Ad ((Ad (x1*n2)).tdiv (64:Int)))∧(Ad ((Ad (x1*n2)).tdiv (64:Int)))<(l4.2.1:Nat) then l4.1.bind fun a5=>(Ai .u64 σ a5.block (a5.off+(Ad ((Ad (x1*n2)).tdiv (64:Int))).toNat*1)).bind fun n6=>(Ii k x0 σ).bind fun r7=>(B8 .i64 r7.1).bind fun n8=>if (64:Int)=0 then none else if ((Ad (x1*n2)).tmod (64:Int))<0 then none else if (64:Int)=0 then none else if ((Ad (x1*n2)).tmod (64:Int))<0 then none else Wq r7.2 a5.block (a5.off+(Ad ((Ad (x1*n2)).tdiv (64:Int))).toNat*1) (.int .u64 (u64 ((BitVec.ofInt 64 (u64 ((BitVec.ofInt 64 n6 &&& ~~~ (BitVec.ofInt 64 (u64 ((u64 (n8))*2 ^ (min ((Ad (x1*n2)).tmod (64:Int)).toNat 64))))).toNat)) ||| BitVec.ofInt 64 (u64 ((u64 (x2))*2 ^ (min ((Ad (x1*n2)).tmod (64:Int)).toNat 64)))).toNat))) fun s9=>some (.tuple #[],s9) else none)
theorem Yl (k:Nat) (x0:Option Addr) (x1:Int) (x2:Int) (σ:Aa):Gd k x0 x1 x2 σ=OO k x0 x1 x2 σ:=by
 cases k with
 | zero=>simp only[Gd,Ab]; rfl
 | succ k=>rw[PY,O9,OO]; simp only[MN,AZ,AQ,Bc,Ba,Bb,Be,Bd,AW,Bf,Ap,A7,Bg,Aj,Ar,Aq,Al]
noncomputable def Jg (k:Nat) (x0:Option Addr) (x1:Int) (x2:Int) (σ:Aa):Option (Value × Aa):=match k with
 | 0=>none
 | k+1=>(fP x0 fun x0=>fI x1 fun x1=>fI x2 fun x2=>fL σ fun σ=>CF σ (.cells [.int .i64 x2] 3 true) fun h1 s2=>(MK k x0 x1 (some ⟨h1,0,none⟩,1,1) s2).bind fun r3=>(B8 .i64 r3.1).bind fun n4=>bif n4 != (0:Int) then (fI n4 fun y5=>some (.int .i64 y5,r3.2)) else ((OO k x0 x1 x2 r3.2).bind fun r6=>UJ r6.1 (fI (0:Int) fun y7=>some (.int .i64 y7,r6.2))))
theorem RN (k:Nat) (x0:Option Addr) (x1:Int) (x2:Int) (σ:Aa):CE k x0 x1 x2 σ=Jg k x0 x1 x2 σ:=by
 cases k with
 | zero=>simp only[CE,Ab]; rfl
 | succ k=>rw[PW,O7,Jg]; simp only[Wn,Yl,AZ,AQ,Bc,Ba,Bb,Be,Bd,AW,Bf,Ap,A7,Bg,Aj,Ar,Aq,Al]
noncomputable def Kw (k:Nat) (x0:Option Addr) (x1:Int) (x2_0:Int) (x2_1:Int) (x2_2:Int) (σ:Aa):Option (Value × Aa):=match k with
 | 0=>none
 | k+1=>(fP x0 fun x0=>fI x1 fun x1=>fI x2_0 fun x2_0=>fI x2_1 fun x2_1=>fI x2_2 fun x2_2=>fL σ fun σ=>CF σ (.cells [.int .i64 x2_0,.int .i64 x2_1,.int .i64 x2_2] 33 true) fun h1 s2=>(DQ k x0 s2).bind fun r3=>(Eh r3.1).bind fun b4=>bif !b4 then (fI (0:Int) fun y5=>fI (5:Int) fun y6=>some (.tuple #[.int .i64 y5,.int .i64 y6],r3.2)) else ((Ai .i64 r3.2 h1 0).bind fun n7=>(Ai .i64 r3.2 h1 (0+1)).bind fun n8=>(Ai .i64 r3.2 h1 (0+1+1)).bind fun n9=>(NQ k n7 n8 n9 r3.2).bind fun r10=>(Eh r10.1).bind fun b11=>bif !b11 then (fI (0:Int) fun y12=>fI (2:Int) fun y13=>some (.tuple #[.int .i64 y12,.int .i64 y13],r10.2)) else ((Ai .i64 r10.2 h1 0).bind fun n14=>(Ai .i64 r10.2 h1 (0+1)).bind fun n15=>(Ai .i64 r10.2 h1 (0+1+1)).bind fun n16=>(NR k n14 n15 n16 r10.2).bind fun r17=>(B8 .i64 r17.1).bind fun n18=>(OK k x0 x1 n18 (-1:Int) r17.2).bind fun r19=>(B8 .i64 r19.1).bind fun n20=>bif n20 != (0:Int) then (fI (0:Int) fun y21=>fI n20 fun y22=>some (.tuple #[.int .i64 y21,.int .i64 y22],r19.2)) else (x0.bind fun a23=>(Ai .i64 r19.2 a23.block (a23.off+6)).bind fun n24=>x0.bind fun a25=>Wq r19.2 a25.block (a25.off+6) (.int .i64 (Ad (n24+(1:Int)))) fun s26=>x0.bind fun a27=>(Ep s26 a27.block (a27.off+1)).bind fun l28=>x0.bind fun a29=>(Ep s26 a29.block (a29.off+1)).bind fun l30=>x0.bind fun a31=>(Ai .i64 s26 a31.block (a31.off+6)).bind fun n32=>(Ai .i64 s26 h1 0).bind fun n33=>(Ai .i64 s26 h1 (0+1)).bind fun n34=>(Ai .i64 s26 h1 (0+1+1)).bind fun n35=>(Sg k n33 n34 n35 s26).bind fun r36=>(B8 .i64 r36.1).bind fun n37=>if 0≤x1∧x1<(l28.2.1:Nat) then l28.1.bind fun a38=>Wq r36.2 a38.block (a38.off+x1.toNat*1) (.int .i64 n32) fun s39=>if 0≤(Ad (x1+(1:Int)))∧(Ad (x1+(1:Int)))<(l30.2.1:Nat) then l30.1.bind fun a40=>Wq s39 a40.block (a40.off+(Ad (x1+(1:Int))).toNat*1) (.int .i64 n37) fun s41=>x0.bind fun a42=>(JC s41 a42.block (a42.off+2)).bind fun p43=>if (2:Int)=0 then none else (Jg k p43 (Ad (x1.tdiv (2:Int))) (1:Int) s41).bind fun r44=>(B8 .i64 r44.1).bind fun n45=>x0.bind fun a46=>(qO r44.2 a46.block (a46.off+4)).bind fun m47=>x0.bind fun a48=>(Ai .i64 r44.2 a48.block (a48.off+6)).bind fun n49=>m47.bind fun h51=>(Up r44.2 h51).bind fun es50=>pU r44.2 h51 (OD n49 (.int .i64 x1) es50) fun s52=>x0.bind fun a53=>(Ai .i64 s52 a53.block (a53.off+6)).bind fun n54=>fI n54 fun y55=>fI (0:Int) fun y56=>some (.tuple #[.int .i64 y55,.int .i64 y56],s52) else none else none))))
theorem QN (k:Nat) (x0:Option Addr) (x1:Int) (x2_0:Int) (x2_1:Int) (x2_2:Int) (σ:Aa):Cq k x0 x1 x2_0 x2_1 x2_2 σ=Kw k x0 x1 x2_0 x2_1 x2_2 σ:=by
 cases k with
 | zero=>simp only[Cq,Ab]; rfl
 | succ k=>rw[Pf,Nu,Kw]; simp only[Sb,RZ,Ec,XN,bV,RN,AZ,AQ,Bc,Ba,Bb,Be,Bd,AW,Bf,Ap,A7,Bg,Aj,Ar,Aq,Al]
noncomputable def JI (k:Nat) (x0:Option Addr) (σ:Aa):Option (Value × Aa):=match k with
 | 0=>none
 | k+1=>(fP x0 fun x0=>fL σ fun σ=>(UH P 42 (.pointer x0) (.pointer none)).bind fun e1=>(bif !e1 then x0.bind fun a2=>(JC σ a2.block (a2.off+0)).bind fun p3=>(UH P 25 (.pointer p3) (.pointer none)).bind fun e4=>some (!e4,σ) else some (false,σ)).bind fun r5=>fB r5.1 fun y6=>some (.bool y6,r5.2))
theorem Sv (k:Nat) (x0:Option Addr) (σ:Aa):B7 k x0 σ=JI k x0 σ:=by
 cases k with
 | zero=>simp only[B7,Ab]; rfl
 | succ k=>rw[Lv,Jw,JI]; simp only[AZ,AQ,Bc,Ba,Bb,Be,Bd,AW,Bf,Ap,A7,Bg,Aj,Ar,Aq,Al]
noncomputable def Lo (k:Nat)  (σ:Aa):Option (Value × Aa):=match k with
 | 0=>none
 | k+1=>(fL σ fun σ=>CF σ (.cells [.iface 150 (.agg #[]),.iface 151 (.agg #[]),.iface 152 (.agg #[]),.iface 153 (.agg #[]),.iface 154 (.agg #[])] 116 true) fun h1 s2=>some (.slice (some ⟨h1,0,none⟩) 5 5,s2))
theorem Rr (k:Nat)  (σ:Aa):DN k  σ=Lo k  σ:=by
 cases k with
 | zero=>simp only[DN,Ab]; rfl
 | succ k=>rw[PK,Ou,Lo]; simp only[AZ,AQ,Bc,Ba,Bb,Be,Bd,AW,Bf,Ap,A7,Bg,Aj,Ar,Aq,Al]
noncomputable def TP (k:Nat) (x0:Int) (σ:Aa):Option (Value × Aa):=match k with
 | 0=>none
 | k+1=>(fI x0 fun x0=>fL σ fun σ=>(bif decide (x0≥(0:Int)) then some (decide (x0<(8:Int)),σ) else some (false,σ)).bind fun r1=>fB r1.1 fun y2=>some (.bool y2,r1.2))
theorem WB (k:Nat) (x0:Int) (σ:Aa):GQ k x0 σ=TP k x0 σ:=by
 cases k with
 | zero=>simp only[GQ,Ab]; rfl
 | succ k=>rw[Uo,Tt,TP]; simp only[AZ,AQ,Bc,Ba,Bb,Be,Bd,AW,Bf,Ap,A7,Bg,Aj,Ar,Aq,Al]
noncomputable def Kz (k:Nat) (x0:Option Addr) (x1:Int) (σ:Aa):Option (Value × Aa):=match k with
 | 0=>none
 | k+1=>(fP x0 fun x0=>fI x1 fun x1=>fL σ fun σ=>(DQ k x0 σ).bind fun r1=>(Eh r1.1).bind fun b2=>(bif b2 then some (decide (x1≥(1:Int)),r1.2) else some (false,r1.2)).bind fun r3=>(bif r3.1 then x0.bind fun a4=>(Ep r3.2 a4.block (a4.off+0)).bind fun l5=>some (decide (x1<((l5.2.1:Nat):Int)),r3.2) else some (false,r3.2)).bind fun r6=>fB r6.1 fun y7=>some (.bool y7,r6.2))
theorem MC (k:Nat) (x0:Option Addr) (x1:Int) (σ:Aa):CJ k x0 x1 σ=Kz k x0 x1 σ:=by
 cases k with
 | zero=>simp only[CJ,Ab]; rfl
 | succ k=>rw[Pj,Nx,Kz]; simp only[Ec,AZ,AQ,Bc,Ba,Bb,Be,Bd,AW,Bf,Ap,A7,Bg,Aj,Ar,Aq,Al]
noncomputable def Lf (k:Nat) (x0_0:Int) (x0_1:Int) (σ:Aa):Option (Value × Aa):=match k with
 | 0=>none
 | k+1=>(fI x0_0 fun x0_0=>fI x0_1 fun x0_1=>fL σ fun σ=>CF σ (.cells [.int .i64 x0_0,.int .i64 x0_1] 104 true) fun h1 s2=>(Ai .i64 s2 h1 0).bind fun n3=>(Ai .i64 s2 h1 (0+1)).bind fun n4=>(UH P 104 (.agg #[.int .i64 n3,.int .i64 n4]) (.agg #[.int .i64 (0:Int),.int .i64 (0:Int)])).bind fun e5=>fB (!e5) fun y6=>some (.bool y6,s2))
theorem UA (k:Nat) (x0_0:Int) (x0_1:Int) (σ:Aa):CI k x0_0 x0_1 σ=Lf k x0_0 x0_1 σ:=by
 cases k with
 | zero=>simp only[CI,Ab]; rfl
 | succ k=>rw[MZ,KC,Lf]; simp only[AZ,AQ,Bc,Ba,Bb,Be,Bd,AW,Bf,Ap,A7,Bg,Aj,Ar,Aq,Al]
theorem T7 (k:Nat) (x0_0:Int) (x0_1:Int) (σ:Aa):fn P (XK Kn.b) H k 166 [.agg #[.int .i64 x0_0,.int .i64 x0_1]] σ=CI k x0_0 x0_1 σ:=by
 simp only[CI,Ab]
noncomputable def Qj (k:Nat) (n:FuncId) (l:List Value) (σ:Aa):Option (Value × Aa):=
 if n=166 then (match l with
  | [.agg ⟨[.int .i64 y1,.int .i64 y2]⟩]=>Lf k y1 y2 σ
  | l=>fn P (XK Kn.b) H k 166 l σ) else
 fn P (XK Kn.b) H k n l σ
theorem dw (k:Nat) (n:FuncId) (l:List Value) (σ:Aa):fn P (XK Kn.b) H k n l σ=Qj k n l σ:=by
 unfold Qj
 split
 ·rename_i hn; subst hn
  split
  ·exact (T7 k _ _ σ).trans (UA k _ _ σ)
  ·rfl
 rfl
noncomputable def TM (k:Nat) (f:Value) (args:List Value) (σ:Aa):Option (Value × Aa):=match f with
 | .func (.func n) first cap=>Qj k n (first.toList++args++cap.toList) σ
 | .func (.method nm) first _=>(match first.toList++args with
   | .iface t v::rest=>(TD P t nm).bind fun n=>Qj k n (v::rest) σ
   | _=>none)
 | _=>none
theorem W9 (k:Nat) (f:Value) (args:List Value) (σ:Aa):HQ k f args σ=TM k f args σ:=by
 simp only[HQ,Ab]
 unfold OT TM
 simp only[dw]
 rfl
noncomputable def Ee (k n:Nat) (p0:Option Addr) (c1:Nat) (c2:Nat) (v3:Value) (i4:Int) (x8:Int) (σ:Aa):Option Ay:=match n with
 | 0=>none
 | n+1=>(fP p0 fun p0=>fN c1 fun c1=>fN c2 fun c2=>fI i4 fun i4=>fI x8 fun x8=>fL σ fun σ=>bif decide (x8<i4) then (if 0≤x8∧x8<(c1:Nat) then p0.bind fun a1=>(Ai .i64 σ a1.block (a1.off+x8.toNat*2)).bind fun n2=>(Ai .i64 σ a1.block (a1.off+x8.toNat*2+1)).bind fun n3=>(TM k v3 [.agg #[.int .i64 n2,.int .i64 n3]] σ).bind fun r4=>(Eh r4.1).bind fun b5=>bif b5 then (some (.ret,[.int .i64 x8],r4.2)) else (Ee k n p0 c1 c2 v3 i4 (Ad (x8+(1:Int))) r4.2) else none) else (some (.exit 0,[],σ)))
termination_by structural n
theorem Nq (k n:Nat) (p0:Option Addr) (c1:Nat) (c2:Nat) (v3:Value) (i4:Int) (x8:Int) (σ:Aa):Bq k n p0 c1 c2 v3 i4 x8 σ=Ee k n p0 c1 c2 v3 i4 x8 σ:=by
 induction n generalizing p0 c1 c2 v3 i4 x8 σ with
 | zero=>simp only[Bq,Ab]; rfl
 | succ n ih=>rw[EN,DZ,Ee]; simp only[W9,ih,AZ,AQ,Bc,Ba,Bb,Be,Bd,AW,Bf,Ap,A7,Bg,Aj,Ar,Aq,Al]
noncomputable def G0 (k:Nat) (x0:Option Addr × Nat × Nat) (x1:Value) (σ:Aa):Option (Value × Aa):=match k with
 | 0=>none
 | k+1=>(fS x0 fun x0=>fL σ fun σ=>(Ee k k x0.1 x0.2.1 x0.2.2 x1 ((x0.2.1:Nat):Int) (0:Int) σ).bind fun r6=>if r6.1 = .exit 0 then (fI (-1:Int) fun y7=>some (.int .i64 y7,r6.2.2)) else if r6.1 = .ret then (Te r6.2.1 fun n8=>fI n8 fun y9=>some (.int .i64 y9,r6.2.2)) else none)
theorem OP (k:Nat) (x0:Option Addr × Nat × Nat) (x1:Value) (σ:Aa):C7 k x0 x1 σ=G0 k x0 x1 σ:=by
 cases k with
 | zero=>simp only[C7,Ab]; rfl
 | succ k=>rw[HW,Gu,G0]; simp only[W9,Nq,AZ,AQ,Bc,Ba,Bb,Be,Bd,AW,Bf,Ap,A7,Bg,Aj,Ar,Aq,Al]
noncomputable def F5 (k:Nat) (x0:Option Addr × Nat × Nat) (x1:Value) (σ:Aa):Option (Value × Aa):=match k with
 | 0=>none
 | k+1=>(fS x0 fun x0=>fL σ fun σ=>(G0 k (x0.1,x0.2.1,x0.2.2) (x1) σ).bind fun r1=>(B8 .i64 r1.1).bind fun n2=>fB (decide (n2≥(0:Int))) fun y3=>some (.bool y3,r1.2))
theorem H0 (k:Nat) (x0:Option Addr × Nat × Nat) (x1:Value) (σ:Aa):Cb k x0 x1 σ=F5 k x0 x1 σ:=by
 cases k with
 | zero=>simp only[Cb,Ab]; rfl
 | succ k=>rw[GZ,Ft,F5]; simp only[OP,AZ,AQ,Bc,Ba,Bb,Be,Bd,AW,Bf,Ap,A7,Bg,Aj,Ar,Aq,Al]
noncomputable def Ie (k n:Nat) (p0:Option Addr) (i1:Int) (h2:Nat) (i3:Int) (x54:Int) (σ:Aa):Option Ay:=match n with
 | 0=>none
 | n+1=>(fP p0 fun p0=>fI i1 fun i1=>fN h2 fun h2=>fI i3 fun i3=>fI x54 fun x54=>fL σ fun σ=>bif decide (x54<i3) then (p0.bind fun a25=>(Ep σ a25.block (a25.off+0)).bind fun l26=>(Ai .i64 σ h2 0).bind fun n27=>(Ai .i64 σ h2 (0+1)).bind fun n28=>if 0≤(Ad (i1+x54))∧(Ad (i1+x54))<(l26.2.1:Nat) then l26.1.bind fun a29=>Ua σ a29.block (a29.off+(Ad (i1+x54)).toNat*2) [.int .i64 n27,.int .i64 n28] fun s30=>Ie k n p0 i1 h2 i3 (Ad (x54+(1:Int))) s30 else none) else (some (.exit 1,[],σ)))
termination_by structural n
theorem UB (k n:Nat) (p0:Option Addr) (i1:Int) (h2:Nat) (i3:Int) (x54:Int) (σ:Aa):Dv k n p0 i1 h2 i3 x54 σ=Ie k n p0 i1 h2 i3 x54 σ:=by
 induction n generalizing p0 i1 h2 i3 x54 σ with
 | zero=>simp only[Dv,Ab]; rfl
 | succ n ih=>rw[IX,HN,Ie]; simp only[Ec,WB,MC,H0,ih,AZ,AQ,Bc,Ba,Bb,Be,Bd,AW,Bf,Ap,A7,Bg,Aj,Ar,Aq,Al]
noncomputable def Ky (k:Nat) (x0:Option Addr) (x1:Int) (x2:Int) (x3_0:Int) (x3_1:Int) (x4_0:Int) (x4_1:Int) (σ:Aa):Option (Value × Aa):=match k with
 | 0=>none
 | k+1=>(fP x0 fun x0=>fI x1 fun x1=>fI x2 fun x2=>fI x3_0 fun x3_0=>fI x3_1 fun x3_1=>fI x4_0 fun x4_0=>fI x4_1 fun x4_1=>fL σ fun σ=>CF σ (.cells [.int .i64 x3_0,.int .i64 x3_1] 104 true) fun h1 s2=>CF s2 (.cells [.int .i64 x4_0,.int .i64 x4_1] 104 true) fun h3 s4=>(DQ k x0 s4).bind fun r5=>(Eh r5.1).bind fun b6=>bif !b6 then (fI (5:Int) fun y7=>some (.int .i64 y7,r5.2)) else ((Kz k x0 x1 r5.2).bind fun r8=>(Eh r8.1).bind fun b9=>(bif !b9 then some (true,r8.2) else some (decide (x2<(1:Int)),r8.2)).bind fun r10=>(bif r10.1 then some (true,r10.2) else x0.bind fun a11=>(Ep r10.2 a11.block (a11.off+0)).bind fun l12=>some (decide (x2>(Ad (((l12.2.1:Nat):Int)-x1))),r10.2)).bind fun r13=>(bif r13.1 then some (true,r13.2) else (Ai .i64 r13.2 h1 (0+1)).bind fun n14=>(TP k n14 r13.2).bind fun r15=>(Eh r15.1).bind fun b16=>some (!b16,r15.2)).bind fun r17=>bif r17.1 then (fI (1:Int) fun y18=>some (.int .i64 y18,r17.2)) else (x0.bind fun a19=>(Ep r17.2 a19.block (a19.off+0)).bind fun l20=>(Lg 104 2 (l20.1,l20.2.1,l20.2.2) (some (.int .i64 x1)) (some (.int .i64 (Ad (x1+x2)))) none r17.2).bind fun l21=>(F5 k (l21.1,l21.2.1,l21.2.2) (.func (.func 166) #[] #[]) r17.2).bind fun r22=>(Eh r22.1).bind fun b23=>bif b23 then (fI (8:Int) fun y24=>some (.int .i64 y24,r22.2)) else ((Ie k k x0 x1 h3 x2 (0:Int) r22.2).bind fun r31=>if r31.1 = .exit 1 then (x0.bind fun a32=>(Ep r31.2.2 a32.block (a32.off+0)).bind fun l33=>(Ai .i64 r31.2.2 h1 0).bind fun n34=>(Ai .i64 r31.2.2 h1 (0+1)).bind fun n35=>if 0≤x1∧x1<(l33.2.1:Nat) then l33.1.bind fun a36=>Ua r31.2.2 a36.block (a36.off+x1.toNat*2) [.int .i64 n34,.int .i64 n35] fun s37=>fI (0:Int) fun y38=>some (.int .i64 y38,s37) else none) else none))))
theorem QP (k:Nat) (x0:Option Addr) (x1:Int) (x2:Int) (x3_0:Int) (x3_1:Int) (x4_0:Int) (x4_1:Int) (σ:Aa):Eb k x0 x1 x2 x3_0 x3_1 x4_0 x4_1 σ=Ky k x0 x1 x2 x3_0 x3_1 x4_0 x4_1 σ:=by
 cases k with
 | zero=>simp only[Eb,Ab]; rfl
 | succ k=>rw[Ph,Nw,Ky]; simp only[Ec,WB,MC,H0,UB,AZ,AQ,Bc,Ba,Bb,Be,Bd,AW,Bf,Ap,A7,Bg,Aj,Ar,Aq,Al]
noncomputable def JJ (k:Nat) (x0:Option Addr) (x1:Int) (x2:Int) (x3:Int) (σ:Aa):Option (Value × Aa):=match k with
 | 0=>none
 | k+1=>(fP x0 fun x0=>fI x1 fun x1=>fI x2 fun x2=>fI x3 fun x3=>fL σ fun σ=>(Ky k x0 x1 x2 (2:Int) x3 (3:Int) x3 σ).bind fun r1=>(B8 .i64 r1.1).bind fun n2=>fI n2 fun y3=>some (.int .i64 y3,r1.2))
theorem Ng (k:Nat) (x0:Option Addr) (x1:Int) (x2:Int) (x3:Int) (σ:Aa):D5 k x0 x1 x2 x3 σ=JJ k x0 x1 x2 x3 σ:=by
 cases k with
 | zero=>simp only[D5,Ab]; rfl
 | succ k=>rw[Lw,Jx,JJ]; simp only[QP,AZ,AQ,Bc,Ba,Bb,Be,Bd,AW,Bf,Ap,A7,Bg,Aj,Ar,Aq,Al]
noncomputable def F4 (k n:Nat) (p0:Option Addr) (i1:Int) (x7:Int) (σ:Aa):Option Ay:=match n with
 | 0=>none
 | n+1=>(fP p0 fun p0=>fI i1 fun i1=>fI x7 fun x7=>fL σ fun σ=>p0.bind fun a1=>(JC σ a1.block (a1.off+0)).bind fun p2=>(Ex k p2 σ).bind fun r3=>(B8 .i64 r3.1).bind fun n4=>bif decide ((Ad (x7+i1))≤n4) then (p0.bind fun a5=>(JC r3.2 a5.block (a5.off+0)).bind fun p6=>p0.bind fun a7=>(Ai .i64 r3.2 a7.block (a7.off+1)).bind fun n8=>(JJ k p6 x7 i1 n8 r3.2).bind fun r9=>(B8 .i64 r9.1).bind fun n10=>bif n10 == (0:Int) then (some (.ret,[.int .i64 (Ad (x7*(64:Int))),.bool true],r9.2)) else (F4 k n p0 i1 (Ad (x7+(1:Int))) r9.2)) else (some (.exit 0,[],r3.2)))
termination_by structural n
theorem Qf (k n:Nat) (p0:Option Addr) (i1:Int) (x7:Int) (σ:Aa):BU k n p0 i1 x7 σ=F4 k n p0 i1 x7 σ:=by
 induction n generalizing p0 i1 x7 σ with
 | zero=>simp only[BU,Ab]; rfl
 | succ n ih=>rw[Jo,Hh,F4]; simp only[Df,Ng,ih,AZ,AQ,Bc,Ba,Bb,Be,Bd,AW,Bf,Ap,A7,Bg,Aj,Ar,Aq,Al]
noncomputable def Jf (k:Nat) (x0:Option Addr) (x1:Int) (σ:Aa):Option (Value × Aa):=match k with
 | 0=>none
 | k+1=>(fP x0 fun x0=>fI x1 fun x1=>fL σ fun σ=>if (64:Int)=0 then none else (F4 k k x0 (Ad ((Ad ((Ad (x1+(64:Int)))-(1:Int))).tdiv (64:Int))) (1:Int) σ).bind fun r11=>if r11.1 = .exit 0 then (fI (0:Int) fun y12=>fB false fun y13=>some (.tuple #[.int .i64 y12,.bool y13],r11.2.2)) else if r11.1 = .ret then (jP r11.2.1 fun n14 b15=>fI n14 fun y16=>fB b15 fun y17=>some (.tuple #[.int .i64 y16,.bool y17],r11.2.2)) else none)
theorem RS (k:Nat) (x0:Option Addr) (x1:Int) (σ:Aa):BW k x0 x1 σ=Jf k x0 x1 σ:=by
 cases k with
 | zero=>simp only[BW,Ab]; rfl
 | succ k=>rw[KM,IK,Jf]; simp only[Df,Ng,Qf,AZ,AQ,Bc,Ba,Bb,Be,Bd,AW,Bf,Ap,A7,Bg,Aj,Ar,Aq,Al]
theorem Rg (k:Nat) (x0:Option Addr) (x1:Int) (σ:Aa):fn P (XK Kn.b) H k 99 [.pointer x0,.int .i64 x1] σ=BW k x0 x1 σ:=by
 simp only[BW,Ab]
noncomputable def Kv (k:Nat) (x0:Option Addr) (x1:Int) (x2:Int) (σ:Aa):Option (Value × Aa):=match k with
 | 0=>none
 | k+1=>(fP x0 fun x0=>fI x1 fun x1=>fI x2 fun x2=>fL σ fun σ=>(Ky k x0 x1 (1:Int) (1:Int) x2 (0:Int) (0:Int) σ).bind fun r1=>(B8 .i64 r1.1).bind fun n2=>fI n2 fun y3=>some (.int .i64 y3,r1.2))
theorem MA (k:Nat) (x0:Option Addr) (x1:Int) (x2:Int) (σ:Aa):Cp k x0 x1 x2 σ=Kv k x0 x1 x2 σ:=by
 cases k with
 | zero=>simp only[Cp,Ab]; rfl
 | succ k=>rw[Pe,Nt,Kv]; simp only[QP,AZ,AQ,Bc,Ba,Bb,Be,Bd,AW,Bf,Ap,A7,Bg,Aj,Ar,Aq,Al]
noncomputable def F3 (k n:Nat) (p0:Option Addr) (h1:Nat) (x4:Int) (σ:Aa):Option Ay:=match n with
 | 0=>none
 | n+1=>(fP p0 fun p0=>fN h1 fun h1=>fI x4 fun x4=>fL σ fun σ=>p0.bind fun a3=>(JC σ a3.block (a3.off+0)).bind fun p4=>(Ex k p4 σ).bind fun r5=>(B8 .i64 r5.1).bind fun n6=>bif decide (x4<n6) then (p0.bind fun a7=>(JC r5.2 a7.block (a7.off+0)).bind fun p8=>p0.bind fun a9=>(Ai .i64 r5.2 a9.block (a9.off+1)).bind fun n10=>(Kv k p8 x4 n10 r5.2).bind fun r11=>(B8 .i64 r11.1).bind fun n12=>bif n12 == (0:Int) then (Ua r11.2 h1 0 [.int .i64 (Ad (x4*(64:Int))),.int .i64 (Ad ((Ad (x4+(1:Int)))*(64:Int)))] fun s13=>some (.ret,[.bool true],s13)) else (F3 k n p0 h1 (Ad (x4+(1:Int))) r11.2)) else (some (.exit 0,[],r5.2)))
termination_by structural n
theorem Qe (k n:Nat) (p0:Option Addr) (h1:Nat) (x4:Int) (σ:Aa):BS k n p0 h1 x4 σ=F3 k n p0 h1 x4 σ:=by
 induction n generalizing p0 h1 x4 σ with
 | zero=>simp only[BS,Ab]; rfl
 | succ n ih=>rw[Gv,Fq,F3]; simp only[Df,MA,ih,AZ,AQ,Bc,Ba,Bb,Be,Bd,AW,Bf,Ap,A7,Bg,Aj,Ar,Aq,Al]
noncomputable def Ff (k:Nat) (x0:Option Addr) (σ:Aa):Option (Value × Aa):=match k with
 | 0=>none
 | k+1=>(fP x0 fun x0=>fL σ fun σ=>CF σ (.cells [.int .i64 (0:Int),.int .i64 (0:Int)] 120 true) fun h1 s2=>(F3 k k x0 h1 (1:Int) s2).bind fun r14=>if r14.1 = .exit 0 then (Ua r14.2.2 h1 0 [.int .i64 (0:Int),.int .i64 (0:Int)] fun s15=>(((TC s15 h1 0 2).bind fun v16=>some (.agg v16.toArray)).bind fun v17=>some [v17,.bool false]).bind fun vs18=>some (Ol vs18,s15)) else if r14.1 = .ret then (mI r14.2.1 fun b19=>(((TC r14.2.2 h1 0 2).bind fun v20=>some (.agg v20.toArray)).bind fun v21=>some [v21,.bool b19]).bind fun vs22=>some (Ol vs22,r14.2.2)) else none)
theorem DL (k:Nat) (x0:Option Addr) (σ:Aa):Bx k x0 σ=Ff k x0 σ:=by
 cases k with
 | zero=>simp only[Bx,Ab]; rfl
 | succ k=>rw[KL,IJ,Ff]; simp only[Df,MA,Qe,AZ,AQ,Bc,Ba,Bb,Be,Bd,AW,Bf,Ap,A7,Bg,Aj,Ar,Aq,Al]
noncomputable def Fg (k:Nat) (x0:Option Addr) (x1:Option Addr × Nat × Nat) (σ:Aa):Option (Value × Aa):=match k with
 | 0=>none
 | k+1=>(fP x0 fun x0=>fS x1 fun x1=>fL σ fun σ=>bif decide (((x1.2.1:Nat):Int)>(0:Int)) then (if 0≤(0:Int)∧(0:Int)<(x1.2.1:Nat) then x1.1.bind fun a1=>(Ai .i64 σ a1.block (a1.off+(0:Int).toNat*2+0)).bind fun n2=>fI n2 fun y3=>fB true fun y4=>some (.tuple #[.int .i64 y3,.bool y4],σ) else none) else ((Ff k x0 σ).bind fun r5=>(Yu r5.1).bind fun q6=>if q6.length=2 then q6.head?.bind fun v7=>dq v7 fun n8 n9=>q6.tail.head?.bind fun v10=>(Eh v10).bind fun b11=>CF r5.2 (.cells [.int .i64 (0:Int),.int .i64 (0:Int)] 120 true) fun h12 s13=>Ua s13 h12 0 [.int .i64 n8,.int .i64 n9] fun s14=>(Ai .i64 s14 h12 (0+0)).bind fun n15=>fI n15 fun y16=>fB b11 fun y17=>some (.tuple #[.int .i64 y16,.bool y17],s14) else none))
theorem Il (k:Nat) (x0:Option Addr) (x1:Option Addr × Nat × Nat) (σ:Aa):AP k x0 x1 σ=Fg k x0 x1 σ:=by
 cases k with
 | zero=>simp only[AP,Ab]; rfl
 | succ k=>rw[KN,IL,Fg]; simp only[DL,AZ,AQ,Bc,Ba,Bb,Be,Bd,AW,Bf,Ap,A7,Bg,Aj,Ar,Aq,Al]
noncomputable def Ih (k n:Nat) (p0:Option Addr) (i1:Int) (x8:Int) (σ:Aa):Option Ay:=match n with
 | 0=>none
 | n+1=>(fP p0 fun p0=>fI i1 fun i1=>fI x8 fun x8=>fL σ fun σ=>p0.bind fun a5=>(Ai .i64 σ a5.block (a5.off+0)).bind fun n6=>bif decide (x8<n6) then ((Jh k p0 x8 σ).bind fun r7=>(B8 .i64 r7.1).bind fun n8=>bif n8 == i1 then (some (.ret,[.int .i64 x8,.int .i64 (0:Int)],r7.2)) else (Ih k n p0 i1 (Ad (x8+(1:Int))) r7.2)) else (some (.exit 0,[],σ)))
termination_by structural n
theorem UG (k n:Nat) (p0:Option Addr) (i1:Int) (x8:Int) (σ:Aa):Dz k n p0 i1 x8 σ=Ih k n p0 i1 x8 σ:=by
 induction n generalizing p0 i1 x8 σ with
 | zero=>simp only[Dz,Ab]; rfl
 | succ n ih=>rw[Nd,KG,Ih]; simp only[Gh,Ij,ih,AZ,AQ,Bc,Ba,Bb,Be,Bd,AW,Bf,Ap,A7,Bg,Aj,Ar,Aq,Al]
noncomputable def K7 (k:Nat) (x0:Option Addr) (x1:Int) (x2:Int) (σ:Aa):Option (Value × Aa):=match k with
 | 0=>none
 | k+1=>(fP x0 fun x0=>fI x1 fun x1=>fI x2 fun x2=>fL σ fun σ=>(G6 k x0 σ).bind fun r1=>(Eh r1.1).bind fun b2=>bif !b2 then (fI (0:Int) fun y3=>fI (5:Int) fun y4=>some (.tuple #[.int .i64 y3,.int .i64 y4],r1.2)) else ((Ih k k x0 x2 (if (0:Int)>x1 then (0:Int) else x1) r1.2).bind fun r9=>if r9.1 = .exit 0 then (fI (0:Int) fun y10=>fI (4:Int) fun y11=>some (.tuple #[.int .i64 y10,.int .i64 y11],r9.2.2)) else if r9.1 = .ret then (Tf r9.2.1 fun n12 n13=>fI n12 fun y14=>fI n13 fun y15=>some (.tuple #[.int .i64 y14,.int .i64 y15],r9.2.2)) else none))
theorem Ra (k:Nat) (x0:Option Addr) (x1:Int) (x2:Int) (σ:Aa):CL k x0 x1 x2 σ=K7 k x0 x1 x2 σ:=by
 cases k with
 | zero=>simp only[CL,Ab]; rfl
 | succ k=>rw[Pp,N4,K7]; simp only[Gh,Ij,UG,AZ,AQ,Bc,Ba,Bb,Be,Bd,AW,Bf,Ap,A7,Bg,Aj,Ar,Aq,Al]
noncomputable def GR (k n:Nat) (p0:Option Addr) (i1:Int) (x7:Option Addr × Nat × Nat) (x8:Int) (x9:Int) (σ:Aa):Option Ay:=match n with
 | 0=>none
 | n+1=>(fP p0 fun p0=>fI i1 fun i1=>fS x7 fun x7=>fI x8 fun x8=>fI x9 fun x9=>fL σ fun σ=>(bif x9 == (0:Int) then some (decide ((Ad ((2:Int)*x8))<i1),σ) else some (false,σ)).bind fun r6=>bif r6.1 then (CF r6.2 (.cells [.int .i64 (Ad ((2:Int)*x8))] 3 true) fun h7 s8=>(Bo P 3 (x7.1,x7.2.1,x7.2.2) (some ⟨h7,0,none⟩,1,1) s8).bind fun r9=>fR r9 fun r9=>p0.bind fun a10=>(JC r9.2 a10.block (a10.off+2)).bind fun p11=>(K7 k p11 (Ad (x8+(1:Int))) (1:Int) r9.2).bind fun r12=>Gq r12.1 fun n13 n14=>GR k n p0 i1 (r9.1.1,r9.1.2.1,r9.1.2.2) n13 n14 r12.2) else (some (.exit 0,[.slice x7.1 x7.2.1 x7.2.2],r6.2)))
termination_by structural n
theorem SJ (k n:Nat) (p0:Option Addr) (i1:Int) (x7:Option Addr × Nat × Nat) (x8:Int) (x9:Int) (σ:Aa):BO k n p0 i1 x7 x8 x9 σ=GR k n p0 i1 x7 x8 x9 σ:=by
 induction n generalizing p0 i1 x7 x8 x9 σ with
 | zero=>simp only[BO,Ab]; rfl
 | succ n ih=>rw[FK,Fs,GR]; simp only[Ra,ih,AZ,AQ,Bc,Ba,Bb,Be,Bd,AW,Bf,Ap,A7,Bg,Aj,Ar,Aq,Al]
noncomputable def LO (k:Nat) (x0:Option Addr) (x1:Int) (x2:Int) (σ:Aa):Option (Value × Aa):=match k with
 | 0=>none
 | k+1=>(fP x0 fun x0=>fI x1 fun x1=>fI x2 fun x2=>fL σ fun σ=>x0.bind fun a1=>(JC σ a1.block (a1.off+2)).bind fun p2=>if (2:Int)=0 then none else (K7 k p2 (Ad (x1.tdiv (2:Int))) (1:Int) σ).bind fun r3=>Gq r3.1 fun n4 n5=>(GR k k x0 x2 (none,0,0) n4 n5 r3.2).bind fun r15=>if r15.1 = .exit 0 then (ZR r15.2.1 fun l16=>some (.slice l16.1 l16.2.1 l16.2.2,r15.2.2)) else none)
theorem Vu (k:Nat) (x0:Option Addr) (x1:Int) (x2:Int) (σ:Aa):Dd k x0 x1 x2 σ=LO k x0 x1 x2 σ:=by
 cases k with
 | zero=>simp only[Dd,Ab]; rfl
 | succ k=>rw[NC,LC,LO]; simp only[Ra,SJ,AZ,AQ,Bc,Ba,Bb,Be,Bd,AW,Bf,Ap,A7,Bg,Aj,Ar,Aq,Al]
noncomputable def IC (k:Nat) (x0:Option Addr) (x1:Int) (σ:Aa):Option (Value × Aa):=match k with
 | 0=>none
 | k+1=>(fP x0 fun x0=>fI x1 fun x1=>fL σ fun σ=>(DQ k x0 σ).bind fun r1=>(Eh r1.1).bind fun b2=>(bif !b2 then some (true,r1.2) else some (decide (x1<(0:Int)),r1.2)).bind fun r3=>(bif r3.1 then some (true,r3.2) else x0.bind fun a4=>(Ep r3.2 a4.block (a4.off+0)).bind fun l5=>some (decide (x1≥((l5.2.1:Nat):Int)),r3.2)).bind fun r6=>bif r6.1 then (some (.slice none 0 0,r6.2)) else ((LO k x0 (Ad (x1*(64:Int))) (Ad ((Ad (x1+(1:Int)))*(64:Int))) r6.2).bind fun r7=>(Hs r7.1).bind fun l8=>some (.slice l8.1 l8.2.1 l8.2.2,r7.2)))
theorem Gz (k:Nat) (x0:Option Addr) (x1:Int) (σ:Aa):Ci k x0 x1 σ=IC k x0 x1 σ:=by
 cases k with
 | zero=>simp only[Ci,Ab]; rfl
 | succ k=>rw[NB,LB,IC]; simp only[Ec,Vu,AZ,AQ,Bc,Ba,Bb,Be,Bd,AW,Bf,Ap,A7,Bg,Aj,Ar,Aq,Al]
noncomputable def Lp (k:Nat) (x0:Option Addr) (x1:Int) (σ:Aa):Option (Value × Aa):=match k with
 | 0=>none
 | k+1=>(fP x0 fun x0=>fI x1 fun x1=>fL σ fun σ=>(Kz k x0 x1 σ).bind fun r1=>(Eh r1.1).bind fun b2=>(bif b2 then x0.bind fun a3=>(Ep r1.2 a3.block (a3.off+0)).bind fun l4=>if 0≤x1∧x1<(l4.2.1:Nat) then l4.1.bind fun a5=>(Ai .i64 r1.2 a5.block (a5.off+x1.toNat*2+0)).bind fun n6=>some (n6 == (1:Int),r1.2) else none else some (false,r1.2)).bind fun r7=>fB r7.1 fun y8=>some (.bool y8,r7.2))
theorem HX (k:Nat) (x0:Option Addr) (x1:Int) (σ:Aa):BZ k x0 x1 σ=Lp k x0 x1 σ:=by
 cases k with
 | zero=>simp only[BZ,Ab]; rfl
 | succ k=>rw[LG,Lh,Lp]; simp only[MC,AZ,AQ,Bc,Ba,Bb,Be,Bd,AW,Bf,Ap,A7,Bg,Aj,Ar,Aq,Al]
noncomputable def IA (k:Nat) (x0:Int) (c0:Option Addr) (c1:Option Addr) (σ:Aa):Option (Value × Aa):=match k with
 | 0=>none
 | k+1=>(fI x0 fun x0=>fP c0 fun c0=>fP c1 fun c1=>fL σ fun σ=>c0.bind fun a1=>(Ai .i64 σ a1.block a1.off).bind fun n2=>(bif decide (x0>n2) then (c1.bind fun a3=>(Ep σ a3.block a3.off).bind fun l4=>c0.bind fun a5=>(Ai .i64 σ a5.block a5.off).bind fun n6=>c0.bind fun a7=>(Ai .i64 σ a7.block a7.off).bind fun n8=>CF σ (.cells [.int .i64 n6,.int .i64 (Ad (x0-n8))] 51 true) fun h9 s10=>(Bo P 51 (l4.1,l4.2.1,l4.2.2) (some ⟨h9,0,none⟩,1,1) s10).bind fun r11=>fR r11 fun r11=>c1.bind fun a12=>Wq r11.2 a12.block a12.off (.slice r11.1.1 r11.1.2.1 r11.1.2.2) fun s13=>some (.normal,[],s13)) else (some (.normal,[],σ)):Option Ay).bind fun r14=>if r14.1 = .normal then (some (.tuple #[],r14.2.2)) else none)
theorem Pu (k:Nat) (x0:Int) (c0:Option Addr) (c1:Option Addr) (σ:Aa):C8 k x0 c0 c1 σ=IA k x0 c0 c1 σ:=by
 cases k with
 | zero=>simp only[C8,Ab]; rfl
 | succ k=>rw[J4,Ix,IA]; simp only[AZ,AQ,Bc,Ba,Bb,Be,Bd,AW,Bf,Ap,A7,Bg,Aj,Ar,Aq,Al]
noncomputable def IB (k n:Nat) (p0:Option Addr) (h1:Nat) (h2:Nat) (p3:Option Addr) (c4:Nat) (c5:Nat) (i6:Int) (x21:Int) (σ:Aa):Option Ay:=match n with
 | 0=>none
 | n+1=>(fP p0 fun p0=>fN h1 fun h1=>fN h2 fun h2=>fP p3 fun p3=>fN c4 fun c4=>fN c5 fun c5=>fI i6 fun i6=>fI x21 fun x21=>fL σ fun σ=>bif decide (x21<i6) then (if 0≤x21∧x21<(c4:Nat) then p3.bind fun a10=>(Ai .i64 σ a10.block (a10.off+x21.toNat*1)).bind fun n11=>(IA k n11 (some ⟨h1,0,none⟩) (some ⟨h2,0,none⟩) σ).bind fun r12=>UJ r12.1 ((He k p0 n11 r12.2).bind fun r13=>(B8 .i64 r13.1).bind fun n14=>Wq r13.2 h1 0 (.int .i64 (Ad (n11+n14))) fun s15=>IB k n p0 h1 h2 p3 c4 c5 i6 (Ad (x21+(1:Int))) s15) else none) else (some (.exit 0,[],σ)))
termination_by structural n
theorem Vt (k n:Nat) (p0:Option Addr) (h1:Nat) (h2:Nat) (p3:Option Addr) (c4:Nat) (c5:Nat) (i6:Int) (x21:Int) (σ:Aa):Dc k n p0 h1 h2 p3 c4 c5 i6 x21 σ=IB k n p0 h1 h2 p3 c4 c5 i6 x21 σ:=by
 induction n generalizing p0 h1 h2 p3 c4 c5 i6 x21 σ with
 | zero=>simp only[Dc,Ab]; rfl
 | succ n ih=>rw[J6,Iy,IB]; simp only[Gz,HX,F0,Pu,ih,AZ,AQ,Bc,Ba,Bb,Be,Bd,AW,Bf,Ap,A7,Bg,Aj,Ar,Aq,Al]
noncomputable def OI (k:Nat) (x0:Option Addr) (x1:Int) (σ:Aa):Option (Value × Aa):=match k with
 | 0=>none
 | k+1=>(fP x0 fun x0=>fI x1 fun x1=>fL σ fun σ=>(Lp k x0 x1 σ).bind fun r1=>(Eh r1.1).bind fun b2=>bif !b2 then (some (.slice none 0 0,r1.2)) else (CF r1.2 (.cells [.slice none 0 0] 46 true) fun h3 s4=>CF s4 (.cells [.int .i64 (0:Int)] 3 true) fun h5 s6=>Wq s6 h5 0 (.int .i64 (Ad (x1*(64:Int)))) fun s7=>(IC k x0 x1 s7).bind fun r8=>(Hs r8.1).bind fun l9=>(IB k k x0 h5 h3 l9.1 l9.2.1 l9.2.2 ((l9.2.1:Nat):Int) (0:Int) r8.2).bind fun r16=>if r16.1 = .exit 0 then ((IA k (Ad ((Ad (x1+(1:Int)))*(64:Int))) (some ⟨h5,0,none⟩) (some ⟨h3,0,none⟩) r16.2.2).bind fun r17=>UJ r17.1 ((Ep r17.2 h3 0).bind fun l18=>some (.slice l18.1 l18.2.1 l18.2.2,r17.2))) else none))
theorem NK (k:Nat) (x0:Option Addr) (x1:Int) (σ:Aa):EZ k x0 x1 σ=OI k x0 x1 σ:=by
 cases k with
 | zero=>simp only[EZ,Ab]; rfl
 | succ k=>rw[I7,IM,OI]; simp only[Gz,HX,F0,Pu,Vt,AZ,AQ,Bc,Ba,Bb,Be,Bd,AW,Bf,Ap,A7,Bg,Aj,Ar,Aq,Al]
noncomputable def NP (k:Nat) (x0:Option Addr) (x1:Int) (σ:Aa):Option (Value × Aa):=match k with
 | 0=>none
 | k+1=>(fP x0 fun x0=>fI x1 fun x1=>fL σ fun σ=>(bif decide (x1<(0:Int)) then some (true,σ) else (Ex k x0 σ).bind fun r1=>(B8 .i64 r1.1).bind fun n2=>some (decide (x1≥n2),r1.2)).bind fun r3=>bif r3.1 then (fI (-1:Int) fun y4=>some (.int .i64 y4,r3.2)) else (x0.bind fun a5=>(Ep r3.2 a5.block (a5.off+0)).bind fun l6=>if 0≤x1∧x1<(l6.2.1:Nat) then l6.1.bind fun a7=>(Ai .i64 r3.2 a7.block (a7.off+x1.toNat*2+0)).bind fun n8=>fI n8 fun y9=>some (.int .i64 y9,r3.2) else none))
theorem QO (k:Nat) (x0:Option Addr) (x1:Int) (σ:Aa):Dn k x0 x1 σ=NP k x0 x1 σ:=by
 cases k with
 | zero=>simp only[Dn,Ab]; rfl
 | succ k=>rw[Pg,Nv,NP]; simp only[Df,AZ,AQ,Bc,Ba,Bb,Be,Bd,AW,Bf,Ap,A7,Bg,Aj,Ar,Aq,Al]
noncomputable def Fi (k n:Nat) (p0:Option Addr) (i1:Int) (x3:Option Addr × Nat × Nat) (x10:Int) (σ:Aa):Option Ay:=match n with
 | 0=>none
 | n+1=>(fP p0 fun p0=>fI i1 fun i1=>fS x3 fun x3=>fI x10 fun x10=>fL σ fun σ=>bif decide (x10<i1) then (p0.bind fun a5=>(JC σ a5.block (a5.off+0)).bind fun p6=>(NP k p6 x10 σ).bind fun r7=>(B8 .i64 r7.1).bind fun n8=>(bif n8 == (1:Int) then p0.bind fun a9=>(JC r7.2 a9.block (a9.off+0)).bind fun p10=>(Kx k p10 x10 r7.2).bind fun r11=>(B8 .i64 r11.1).bind fun n12=>p0.bind fun a13=>(Ai .i64 r11.2 a13.block (a13.off+1)).bind fun n14=>some (n12 == n14,r11.2) else some (false,r7.2)).bind fun r15=>(bif r15.1 then (CF r15.2 (.cells [.int .i64 x10] 3 true) fun h16 s17=>(Bo P 3 (x3.1,x3.2.1,x3.2.2) (some ⟨h16,0,none⟩,1,1) s17).bind fun r18=>fR r18 fun r18=>some (.normal,[.slice r18.1.1 r18.1.2.1 r18.1.2.2],r18.2)) else (some (.normal,[.slice x3.1 x3.2.1 x3.2.2],r15.2)):Option Ay).bind fun r19=>if r19.1 = .normal then (ZR r19.2.1 fun l20=>Fi k n p0 i1 (l20.1,l20.2.1,l20.2.2) (Ad (x10+(1:Int))) r19.2.2) else none) else (some (.exit 0,[.slice x3.1 x3.2.1 x3.2.2],σ)))
termination_by structural n
theorem P6 (k n:Nat) (p0:Option Addr) (i1:Int) (x3:Option Addr × Nat × Nat) (x10:Int) (σ:Aa):B1 k n p0 i1 x3 x10 σ=Fi k n p0 i1 x3 x10 σ:=by
 induction n generalizing p0 i1 x3 x10 σ with
 | zero=>simp only[B1,Ab]; rfl
 | succ n ih=>rw[FU,Fh,Fi]; simp only[Df,QO,MB,ih,AZ,AQ,Bc,Ba,Bb,Be,Bd,AW,Bf,Ap,A7,Bg,Aj,Ar,Aq,Al]
noncomputable def Gr (k:Nat) (x0:Option Addr) (σ:Aa):Option (Value × Aa):=match k with
 | 0=>none
 | k+1=>(fP x0 fun x0=>fL σ fun σ=>x0.bind fun a1=>(JC σ a1.block (a1.off+0)).bind fun p2=>(Ex k p2 σ).bind fun r3=>(B8 .i64 r3.1).bind fun n4=>(Fi k k x0 n4 (none,0,0) (0:Int) r3.2).bind fun r21=>if r21.1 = .exit 0 then (ZR r21.2.1 fun l22=>some (.slice l22.1 l22.2.1 l22.2.2,r21.2.2)) else none)
theorem CB (k:Nat) (x0:Option Addr) (σ:Aa):Bt k x0 σ=Gr k x0 σ:=by
 cases k with
 | zero=>simp only[Bt,Ab]; rfl
 | succ k=>rw[Kr,Im,Gr]; simp only[Df,QO,MB,P6,AZ,AQ,Bc,Ba,Bb,Be,Bd,AW,Bf,Ap,A7,Bg,Aj,Ar,Aq,Al]
noncomputable def FN (k n:Nat) (i0:Int) (i1:Int) (p2:Option Addr) (c3:Nat) (c4:Nat) (i5:Int) (x7:Option Addr × Nat × Nat) (x27:Int) (σ:Aa):Option Ay:=match n with
 | 0=>none
 | n+1=>(fI i0 fun i0=>fI i1 fun i1=>fP p2 fun p2=>fN c3 fun c3=>fN c4 fun c4=>fI i5 fun i5=>fS x7 fun x7=>fI x27 fun x27=>fL σ fun σ=>bif decide (x27<i5) then (if 0≤x27∧x27<(c3:Nat) then p2.bind fun a9=>(Ai .i64 σ a9.block (a9.off+x27.toNat*2)).bind fun n10=>(Ai .i64 σ a9.block (a9.off+x27.toNat*2+1)).bind fun n11=>CF σ (.cells [.int .i64 (0:Int),.int .i64 (0:Int)] 51 true) fun h12 s13=>Ua s13 h12 0 [.int .i64 n10,.int .i64 n11] fun s14=>(Ai .i64 s14 h12 (0+0)).bind fun n15=>(bif decide ((Ad (i0-n15))>(0:Int)) then ((Ai .i64 s14 h12 (0+1)).bind fun n16=>Wq s14 h12 (0+0) (.int .i64 i0) fun s17=>Wq s17 h12 (0+1) (.int .i64 (Ad (n16-(Ad (i0-n15))))) fun s18=>some (.normal,[],s18)) else (some (.normal,[],s14)):Option Ay).bind fun r19=>if r19.1 = .normal then ((Ai .i64 r19.2.2 h12 (0+1)).bind fun n20=>(bif decide (n20≥i1) then ((Ai .i64 r19.2.2 h12 0).bind fun n21=>(Ai .i64 r19.2.2 h12 (0+1)).bind fun n22=>CF r19.2.2 (.cells [.int .i64 n21,.int .i64 n22] 51 true) fun h23 s24=>(Bo P 51 (x7.1,x7.2.1,x7.2.2) (some ⟨h23,0,none⟩,1,1) s24).bind fun r25=>fR r25 fun r25=>some (.normal,[.slice r25.1.1 r25.1.2.1 r25.1.2.2],r25.2)) else (some (.normal,[.slice x7.1 x7.2.1 x7.2.2],r19.2.2)):Option Ay).bind fun r26=>if r26.1 = .normal then (ZR r26.2.1 fun l27=>FN k n i0 i1 p2 c3 c4 i5 (l27.1,l27.2.1,l27.2.2) (Ad (x27+(1:Int))) r26.2.2) else none) else none else none) else (some (.exit 2,[.slice x7.1 x7.2.1 x7.2.2],σ)))
termination_by structural n
theorem K9 (k n:Nat) (i0:Int) (i1:Int) (p2:Option Addr) (c3:Nat) (c4:Nat) (i5:Int) (x7:Option Addr × Nat × Nat) (x27:Int) (σ:Aa):BJ k n i0 i1 p2 c3 c4 i5 x7 x27 σ=FN k n i0 i1 p2 c3 c4 i5 x7 x27 σ:=by
 induction n generalizing i0 i1 p2 c3 c4 i5 x7 x27 σ with
 | zero=>simp only[BJ,Ab]; rfl
 | succ n ih=>rw[GA,FG,FN]; simp only[NK,CB,ih,AZ,AQ,Bc,Ba,Bb,Be,Bd,AW,Bf,Ap,A7,Bg,Aj,Ar,Aq,Al]
noncomputable def FM (k n:Nat) (p0:Option Addr) (i1:Int) (i2:Int) (p3:Option Addr) (c4:Nat) (c5:Nat) (i6:Int) (x7:Option Addr × Nat × Nat) (x16:Int) (σ:Aa):Option Ay:=match n with
 | 0=>none
 | n+1=>(fP p0 fun p0=>fI i1 fun i1=>fI i2 fun i2=>fP p3 fun p3=>fN c4 fun c4=>fN c5 fun c5=>fI i6 fun i6=>fS x7 fun x7=>fI x16 fun x16=>fL σ fun σ=>bif decide (x16<i6) then (if 0≤x16∧x16<(c4:Nat) then p3.bind fun a3=>(Ai .i64 σ a3.block (a3.off+x16.toNat*1)).bind fun n4=>p0.bind fun a5=>(JC σ a5.block (a5.off+0)).bind fun p6=>(OI k p6 n4 σ).bind fun r7=>(Hs r7.1).bind fun l8=>(FN k k i1 i2 l8.1 l8.2.1 l8.2.2 ((l8.2.1:Nat):Int) (x7.1,x7.2.1,x7.2.2) (0:Int) r7.2).bind fun r28=>if r28.1 = .exit 2 then (ZR r28.2.1 fun l29=>FM k n p0 i1 i2 p3 c4 c5 i6 (l29.1,l29.2.1,l29.2.2) (Ad (x16+(1:Int))) r28.2.2) else none else none) else (some (.exit 0,[.slice x7.1 x7.2.1 x7.2.2],σ)))
termination_by structural n
theorem Qt (k n:Nat) (p0:Option Addr) (i1:Int) (i2:Int) (p3:Option Addr) (c4:Nat) (c5:Nat) (i6:Int) (x7:Option Addr × Nat × Nat) (x16:Int) (σ:Aa):BI k n p0 i1 i2 p3 c4 c5 i6 x7 x16 σ=FM k n p0 i1 i2 p3 c4 c5 i6 x7 x16 σ:=by
 induction n generalizing p0 i1 i2 p3 c4 c5 i6 x7 x16 σ with
 | zero=>simp only[BI,Ab]; rfl
 | succ n ih=>rw[G9,FF,FM]; simp only[NK,CB,K9,ih,AZ,AQ,Bc,Ba,Bb,Be,Bd,AW,Bf,Ap,A7,Bg,Aj,Ar,Aq,Al]
noncomputable def E9 (k:Nat) (x0:Option Addr) (x1:Int) (x2:Int) (σ:Aa):Option (Value × Aa):=match k with
 | 0=>none
 | k+1=>(fP x0 fun x0=>fI x1 fun x1=>fI x2 fun x2=>fL σ fun σ=>(Gr k x0 σ).bind fun r1=>(Hs r1.1).bind fun l2=>(FM k k x0 x1 x2 l2.1 l2.2.1 l2.2.2 ((l2.2.1:Nat):Int) (none,0,0) (0:Int) r1.2).bind fun r30=>if r30.1 = .exit 0 then (ZR r30.2.1 fun l31=>some (.slice l31.1 l31.2.1 l31.2.2,r30.2.2)) else none)
theorem IH (k:Nat) (x0:Option Addr) (x1:Int) (x2:Int) (σ:Aa):AM k x0 x1 x2 σ=E9 k x0 x1 x2 σ:=by
 cases k with
 | zero=>simp only[AM,Ab]; rfl
 | succ k=>rw[Lt,Ju,E9]; simp only[NK,CB,K9,Qt,AZ,AQ,Bc,Ba,Bb,Be,Bd,AW,Bf,Ap,A7,Bg,Aj,Ar,Aq,Al]
noncomputable def LM (k:Nat) (x1:Option Addr) (x2:Int) (σ:Aa):Option (Value × Aa):=match k with
 | 0=>none
 | k+1=>(fP x1 fun x1=>fI x2 fun x2=>fL σ fun σ=>CF σ (.cells [] 150 true) fun h1 s2=>(E9 k x1 (0:Int) x2 s2).bind fun r3=>(Hs r3.1).bind fun l4=>(Fg k x1 (l4.1,l4.2.1,l4.2.2) r3.2).bind fun r5=>Xl r5.1 fun n6 b7=>fI n6 fun y8=>fB b7 fun y9=>some (.tuple #[.int .i64 y8,.bool y9],r5.2))
theorem UU (k:Nat) (x1:Option Addr) (x2:Int) (σ:Aa):Da k x1 x2 σ=LM k x1 x2 σ:=by
 cases k with
 | zero=>simp only[Da,Ab]; rfl
 | succ k=>rw[N9,L9,LM]; simp only[Il,IH,AZ,AQ,Bc,Ba,Bb,Be,Bd,AW,Bf,Ap,A7,Bg,Aj,Ar,Aq,Al]
theorem Uw (k:Nat) (x1:Option Addr) (x2:Int) (σ:Aa):fn P (XK Kn.b) H k 199 [.agg #[],.pointer x1,.int .i64 x2] σ=Da k x1 x2 σ:=by
 simp only[Da,Ab]
noncomputable def Kl (k:Nat) (x0_0:Int) (x0_1:Int) (x1_0:Int) (x1_1:Int) (σ:Aa):Option (Value × Aa):=match k with
 | 0=>none
 | k+1=>(fI x0_0 fun x0_0=>fI x0_1 fun x0_1=>fI x1_0 fun x1_0=>fI x1_1 fun x1_1=>fL σ fun σ=>CF σ (.cells [.int .i64 x0_0,.int .i64 x0_1] 51 true) fun h1 s2=>CF s2 (.cells [.int .i64 x1_0,.int .i64 x1_1] 51 true) fun h3 s4=>(Ai .i64 s4 h1 (0+1)).bind fun n5=>(Ai .i64 s4 h3 (0+1)).bind fun n6=>fI (Ad (n5-n6)) fun y7=>some (.int .i64 y7,s4))
theorem Tj (k:Nat) (x0_0:Int) (x0_1:Int) (x1_0:Int) (x1_1:Int) (σ:Aa):CZ k x0_0 x0_1 x1_0 x1_1 σ=Kl k x0_0 x0_1 x1_0 x1_1 σ:=by
 cases k with
 | zero=>simp only[CZ,Ab]; rfl
 | succ k=>rw[LU,JZ,Kl]; simp only[AZ,AQ,Bc,Ba,Bb,Be,Bd,AW,Bf,Ap,A7,Bg,Aj,Ar,Aq,Al]
theorem Sw (k:Nat) (x0_0:Int) (x0_1:Int) (x1_0:Int) (x1_1:Int) (σ:Aa):fn P (XK Kn.b) H k 206 [.agg #[.int .i64 x0_0,.int .i64 x0_1],.agg #[.int .i64 x1_0,.int .i64 x1_1]] σ=CZ k x0_0 x0_1 x1_0 x1_1 σ:=by
 simp only[CZ,Ab]
noncomputable def NN (k:Nat) (n:FuncId) (l:List Value) (σ:Aa):Option (Value × Aa):=
 if n=206 then (match l with
  | [.agg ⟨[.int .i64 y1,.int .i64 y2]⟩,.agg ⟨[.int .i64 y3,.int .i64 y4]⟩]=>Kl k y1 y2 y3 y4 σ
  | l=>fn P (XK Kn.b) H k 206 l σ) else
 fn P (XK Kn.b) H k n l σ
theorem ZX (k:Nat) (n:FuncId) (l:List Value) (σ:Aa):fn P (XK Kn.b) H k n l σ=NN k n l σ:=by
 unfold NN
 split
 ·rename_i hn; subst hn
  split
  ·exact (Sw k _ _ _ _ σ).trans (Tj k _ _ _ _ σ)
  ·rfl
 rfl
noncomputable def QX (k:Nat) (f:Value) (args:List Value) (σ:Aa):Option (Value × Aa):=match f with
 | .func (.func n) first cap=>NN k n (first.toList++args++cap.toList) σ
 | .func (.method nm) first _=>(match first.toList++args with
   | .iface t v::rest=>(TD P t nm).bind fun n=>NN k n (v::rest) σ
   | _=>none)
 | _=>none
theorem PB (k:Nat) (f:Value) (args:List Value) (σ:Aa):Di k f args σ=QX k f args σ:=by
 simp only[Di,Ab]
 unfold OT QX
 simp only[ZX]
 rfl
noncomputable def C5 (k n:Nat) (p0:Option Addr) (c1:Nat) (c2:Nat) (i3:Int) (v4:Value) (x9:Int) (σ:Aa):Option Ay:=match n with
 | 0=>none
 | n+1=>(fP p0 fun p0=>fN c1 fun c1=>fN c2 fun c2=>fI i3 fun i3=>fI x9 fun x9=>fL σ fun σ=>(bif decide (x9>i3) then if 0≤x9∧x9<(c1:Nat) then p0.bind fun a1=>(Ai .i64 σ a1.block (a1.off+x9.toNat*2)).bind fun n2=>(Ai .i64 σ a1.block (a1.off+x9.toNat*2+1)).bind fun n3=>if 0≤(Ad (x9-(1:Int)))∧(Ad (x9-(1:Int)))<(c1:Nat) then p0.bind fun a4=>(Ai .i64 σ a4.block (a4.off+(Ad (x9-(1:Int))).toNat*2)).bind fun n5=>(Ai .i64 σ a4.block (a4.off+(Ad (x9-(1:Int))).toNat*2+1)).bind fun n6=>(QX k v4 [.agg #[.int .i64 n2,.int .i64 n3],.agg #[.int .i64 n5,.int .i64 n6]] σ).bind fun r7=>(B8 .i64 r7.1).bind fun n8=>some (decide (n8<(0:Int)),r7.2) else none else none else some (false,σ)).bind fun r9=>bif r9.1 then (if 0≤(Ad (x9-(1:Int)))∧(Ad (x9-(1:Int)))<(c1:Nat) then p0.bind fun a10=>(Ai .i64 r9.2 a10.block (a10.off+(Ad (x9-(1:Int))).toNat*2)).bind fun n11=>(Ai .i64 r9.2 a10.block (a10.off+(Ad (x9-(1:Int))).toNat*2+1)).bind fun n12=>if 0≤x9∧x9<(c1:Nat) then p0.bind fun a13=>(Ai .i64 r9.2 a13.block (a13.off+x9.toNat*2)).bind fun n14=>(Ai .i64 r9.2 a13.block (a13.off+x9.toNat*2+1)).bind fun n15=>if 0≤x9∧x9<(c1:Nat) then p0.bind fun a16=>Ua r9.2 a16.block (a16.off+x9.toNat*2) [.int .i64 n11,.int .i64 n12] fun s17=>if 0≤(Ad (x9-(1:Int)))∧(Ad (x9-(1:Int)))<(c1:Nat) then p0.bind fun a18=>Ua s17 a18.block (a18.off+(Ad (x9-(1:Int))).toNat*2) [.int .i64 n14,.int .i64 n15] fun s19=>C5 k n p0 c1 c2 i3 v4 (Ad (x9-(1:Int))) s19 else none else none else none else none) else (some (.exit 2,[],r9.2)))
termination_by structural n
theorem FC (k n:Nat) (p0:Option Addr) (c1:Nat) (c2:Nat) (i3:Int) (v4:Value) (x9:Int) (σ:Aa):AG k n p0 c1 c2 i3 v4 x9 σ=C5 k n p0 c1 c2 i3 v4 x9 σ:=by
 induction n generalizing p0 c1 c2 i3 v4 x9 σ with
 | zero=>simp only[AG,Ab]; rfl
 | succ n ih=>rw[Dr,C2,C5]; simp only[PB,ih,AZ,AQ,Bc,Ba,Bb,Be,Bd,AW,Bf,Ap,A7,Bg,Aj,Ar,Aq,Al]
noncomputable def C4 (k n:Nat) (p0:Option Addr) (c1:Nat) (c2:Nat) (i3:Int) (i4:Int) (v5:Value) (x8:Int) (σ:Aa):Option Ay:=match n with
 | 0=>none
 | n+1=>(fP p0 fun p0=>fN c1 fun c1=>fN c2 fun c2=>fI i3 fun i3=>fI i4 fun i4=>fI x8 fun x8=>fL σ fun σ=>bif decide (x8<i4) then ((C5 k k p0 c1 c2 i3 v5 x8 σ).bind fun r20=>if r20.1 = .exit 2 then (C4 k n p0 c1 c2 i3 i4 v5 (Ad (x8+(1:Int))) r20.2.2) else none) else (some (.exit 0,[],σ)))
termination_by structural n
theorem JQ (k n:Nat) (p0:Option Addr) (c1:Nat) (c2:Nat) (i3:Int) (i4:Int) (v5:Value) (x8:Int) (σ:Aa):AF k n p0 c1 c2 i3 i4 v5 x8 σ=C4 k n p0 c1 c2 i3 i4 v5 x8 σ:=by
 induction n generalizing p0 c1 c2 i3 i4 v5 x8 σ with
 | zero=>simp only[AF,Ab]; rfl
 | succ n ih=>rw[Dq,C1,C4]; simp only[PB,FC,ih,AZ,AQ,Bc,Ba,Bb,Be,Bd,AW,Bf,Ap,A7,Bg,Aj,Ar,Aq,Al]
noncomputable def CV (k:Nat) (x0:Option Addr × Nat × Nat) (x1:Int) (x2:Int) (x3:Value) (σ:Aa):Option (Value × Aa):=match k with
 | 0=>none
 | k+1=>(fS x0 fun x0=>fI x1 fun x1=>fI x2 fun x2=>fL σ fun σ=>(C4 k k x0.1 x0.2.1 x0.2.2 x1 x2 x3 (Ad (x1+(1:Int))) σ).bind fun r21=>if r21.1 = .exit 0 then (some (.tuple #[],r21.2.2)) else none)
theorem CO (k:Nat) (x0:Option Addr × Nat × Nat) (x1:Int) (x2:Int) (x3:Value) (σ:Aa):A9 k x0 x1 x2 x3 σ=CV k x0 x1 x2 x3 σ:=by
 cases k with
 | zero=>simp only[A9,Ab]; rfl
 | succ k=>rw[DY,CS,CV]; simp only[PB,FC,JQ,AZ,AQ,Bc,Ba,Bb,Be,Bd,AW,Bf,Ap,A7,Bg,Aj,Ar,Aq,Al]
noncomputable def F6 (k:Nat) (x0:Option Addr × Nat × Nat) (x1:Int) (x2:Int) (x3:Int) (x4:Value) (σ:Aa):Option (Value × Aa):=Ax k x0 x1 x2 x3 x4 σ
theorem DK (k:Nat) (x0:Option Addr × Nat × Nat) (x1:Int) (x2:Int) (x3:Int) (x4:Value) (σ:Aa):Ax k x0 x1 x2 x3 x4 σ=F6 k x0 x1 x2 x3 x4 σ:=rfl
noncomputable def DH (k n:Nat) (p0:Option Addr) (c1:Nat) (c2:Nat) (i3:Int) (v4:Value) (x7:Int) (x8:Int) (σ:Aa):Option Ay:=match n with
 | 0=>none
 | n+1=>(fP p0 fun p0=>fN c1 fun c1=>fN c2 fun c2=>fI i3 fun i3=>fI x7 fun x7=>fI x8 fun x8=>fL σ fun σ=>bif decide (x8≤i3) then ((CV k (p0,c1,c2) x7 x8 (v4) σ).bind fun r1=>UJ r1.1 (DH k n p0 c1 c2 i3 v4 x8 (Ad (x8+(20:Int))) r1.2)) else (some (.exit 0,[.int .i64 x7],σ)))
termination_by structural n
theorem EW (k n:Nat) (p0:Option Addr) (c1:Nat) (c2:Nat) (i3:Int) (v4:Value) (x7:Int) (x8:Int) (σ:Aa):AR k n p0 c1 c2 i3 v4 x7 x8 σ=DH k n p0 c1 c2 i3 v4 x7 x8 σ:=by
 induction n generalizing p0 c1 c2 i3 v4 x7 x8 σ with
 | zero=>simp only[AR,Ab]; rfl
 | succ n ih=>rw[EC,DF,DH]; simp only[CO,DK,ih,AZ,AQ,Bc,Ba,Bb,Be,Bd,AW,Bf,Ap,A7,Bg,Aj,Ar,Aq,Al]
noncomputable def DJ (k n:Nat) (p0:Option Addr) (c1:Nat) (c2:Nat) (i3:Int) (v4:Value) (i5:Int) (x7:Int) (x8:Int) (σ:Aa):Option Ay:=match n with
 | 0=>none
 | n+1=>(fP p0 fun p0=>fN c1 fun c1=>fN c2 fun c2=>fI i3 fun i3=>fI i5 fun i5=>fI x7 fun x7=>fI x8 fun x8=>fL σ fun σ=>bif decide (x8≤i3) then ((F6 k (p0,c1,c2) x7 (Ad (x7+i5)) x8 (v4) σ).bind fun r5=>UJ r5.1 (DJ k n p0 c1 c2 i3 v4 i5 x8 (Ad (x8+(Ad ((2:Int)*i5)))) r5.2)) else (some (.exit 4,[.int .i64 x7],σ)))
termination_by structural n
theorem Hr (k n:Nat) (p0:Option Addr) (c1:Nat) (c2:Nat) (i3:Int) (v4:Value) (i5:Int) (x7:Int) (x8:Int) (σ:Aa):Bn k n p0 c1 c2 i3 v4 i5 x7 x8 σ=DJ k n p0 c1 c2 i3 v4 i5 x7 x8 σ:=by
 induction n generalizing p0 c1 c2 i3 v4 i5 x7 x8 σ with
 | zero=>simp only[Bn,Ab]; rfl
 | succ n ih=>rw[GK,Fj,DJ]; simp only[CO,DK,EW,ih,AZ,AQ,Bc,Ba,Bb,Be,Bd,AW,Bf,Ap,A7,Bg,Aj,Ar,Aq,Al]
noncomputable def DI (k n:Nat) (p0:Option Addr) (c1:Nat) (c2:Nat) (i3:Int) (v4:Value) (x6:Int) (σ:Aa):Option Ay:=match n with
 | 0=>none
 | n+1=>(fP p0 fun p0=>fN c1 fun c1=>fN c2 fun c2=>fI i3 fun i3=>fI x6 fun x6=>fL σ fun σ=>bif decide (x6<i3) then ((DJ k k p0 c1 c2 i3 v4 x6 (0:Int) (Ad ((2:Int)*x6)) σ).bind fun r6=>if r6.1 = .exit 4 then (Te r6.2.1 fun n7=>(bif decide ((Ad (n7+x6))<i3) then ((F6 k (p0,c1,c2) n7 (Ad (n7+x6)) i3 (v4) r6.2.2).bind fun r8=>UJ r8.1 (some (.normal,[],r8.2))) else (some (.normal,[],r6.2.2)):Option Ay).bind fun r9=>if r9.1 = .normal then (DI k n p0 c1 c2 i3 v4 (Ad (x6*(2:Int))) r9.2.2) else none) else none) else (some (.exit 2,[],σ)))
termination_by structural n
theorem MO (k n:Nat) (p0:Option Addr) (c1:Nat) (c2:Nat) (i3:Int) (v4:Value) (x6:Int) (σ:Aa):AU k n p0 c1 c2 i3 v4 x6 σ=DI k n p0 c1 c2 i3 v4 x6 σ:=by
 induction n generalizing p0 c1 c2 i3 v4 x6 σ with
 | zero=>simp only[AU,Ab]; rfl
 | succ n ih=>rw[ED,DG,DI]; simp only[CO,DK,EW,Hr,ih,AZ,AQ,Bc,Ba,Bb,Be,Bd,AW,Bf,Ap,A7,Bg,Aj,Ar,Aq,Al]
noncomputable def Gg (k:Nat) (x0:Option Addr × Nat × Nat) (x1:Int) (x2:Value) (σ:Aa):Option (Value × Aa):=match k with
 | 0=>none
 | k+1=>(fS x0 fun x0=>fI x1 fun x1=>fL σ fun σ=>(DH k k x0.1 x0.2.1 x0.2.2 x1 x2 (0:Int) (20:Int) σ).bind fun r2=>if r2.1 = .exit 0 then (Te r2.2.1 fun n3=>(CV k (x0.1,x0.2.1,x0.2.2) n3 x1 (x2) r2.2.2).bind fun r4=>UJ r4.1 ((DI k k x0.1 x0.2.1 x0.2.2 x1 x2 (20:Int) r4.2).bind fun r10=>if r10.1 = .exit 2 then (some (.tuple #[],r10.2.2)) else none)) else none)
theorem NW (k:Nat) (x0:Option Addr × Nat × Nat) (x1:Int) (x2:Value) (σ:Aa):Cn k x0 x1 x2 σ=Gg k x0 x1 x2 σ:=by
 cases k with
 | zero=>simp only[Cn,Ab]; rfl
 | succ k=>rw[Fk,Ez,Gg]; simp only[CO,DK,EW,Hr,MO,AZ,AQ,Bc,Ba,Bb,Be,Bd,AW,Bf,Ap,A7,Bg,Aj,Ar,Aq,Al]
noncomputable def FE (k:Nat) (x0:Option Addr × Nat × Nat) (x1:Value) (σ:Aa):Option (Value × Aa):=match k with
 | 0=>none
 | k+1=>(fS x0 fun x0=>fL σ fun σ=>(Gg k (x0.1,x0.2.1,x0.2.2) ((x0.2.1:Nat):Int) (x1) σ).bind fun r1=>UJ r1.1 (some (.tuple #[],r1.2)))
theorem NU (k:Nat) (x0:Option Addr × Nat × Nat) (x1:Value) (σ:Aa):Bh k x0 x1 σ=FE k x0 x1 σ:=by
 cases k with
 | zero=>simp only[Bh,Ab]; rfl
 | succ k=>rw[EU,Eo,FE]; simp only[NW,AZ,AQ,Bc,Ba,Bb,Be,Bd,AW,Bf,Ap,A7,Bg,Aj,Ar,Aq,Al]
noncomputable def MG (k:Nat) (x1:Option Addr) (x2:Int) (σ:Aa):Option (Value × Aa):=match k with
 | 0=>none
 | k+1=>(fP x1 fun x1=>fI x2 fun x2=>fL σ fun σ=>CF σ (.cells [] 151 true) fun h1 s2=>(E9 k x1 (0:Int) x2 s2).bind fun r3=>(Hs r3.1).bind fun l4=>(FE k (l4.1,l4.2.1,l4.2.2) (.func (.func 206) #[] #[]) r3.2).bind fun r5=>UJ r5.1 ((Fg k x1 (l4.1,l4.2.1,l4.2.2) r5.2).bind fun r6=>Xl r6.1 fun n7 b8=>fI n7 fun y9=>fB b8 fun y10=>some (.tuple #[.int .i64 y9,.bool y10],r6.2)))
theorem Wd (k:Nat) (x1:Option Addr) (x2:Int) (σ:Aa):D2 k x1 x2 σ=MG k x1 x2 σ:=by
 cases k with
 | zero=>simp only[D2,Ab]; rfl
 | succ k=>rw[NY,Mw,MG]; simp only[Il,IH,NU,AZ,AQ,Bc,Ba,Bb,Be,Bd,AW,Bf,Ap,A7,Bg,Aj,Ar,Aq,Al]
theorem US (k:Nat) (x1:Option Addr) (x2:Int) (σ:Aa):fn P (XK Kn.b) H k 204 [.agg #[],.pointer x1,.int .i64 x2] σ=D2 k x1 x2 σ:=by
 simp only[D2,Ab]
noncomputable def MI (k:Nat) (x1:Option Addr) (x2:Int) (σ:Aa):Option (Value × Aa):=match k with
 | 0=>none
 | k+1=>(fP x1 fun x1=>fI x2 fun x2=>fL σ fun σ=>CF σ (.cells [] 152 true) fun h1 s2=>x1.bind fun a3=>(Ai .i64 s2 a3.block (a3.off+3+0)).bind fun n4=>(E9 k x1 n4 x2 s2).bind fun r5=>(Hs r5.1).bind fun l6=>(E9 k x1 (0:Int) x2 r5.2).bind fun r7=>(Hs r7.1).bind fun l8=>(Bo P 51 (l6.1,l6.2.1,l6.2.2) (l8.1,l8.2.1,l8.2.2) r7.2).bind fun r9=>fR r9 fun r9=>(Fg k x1 (r9.1.1,r9.1.2.1,r9.1.2.2) r9.2).bind fun r10=>Xl r10.1 fun n11 b12=>(bif b12 then (x1.bind fun a13=>Wq r10.2 a13.block (a13.off+3+0) (.int .i64 (Ad (n11+x2))) fun s14=>some (.normal,[],s14)) else (some (.normal,[],r10.2)):Option Ay).bind fun r15=>if r15.1 = .normal then (fI n11 fun y16=>fB b12 fun y17=>some (.tuple #[.int .i64 y16,.bool y17],r15.2.2)) else none)
theorem Wf (k:Nat) (x1:Option Addr) (x2:Int) (σ:Aa):D4 k x1 x2 σ=MI k x1 x2 σ:=by
 cases k with
 | zero=>simp only[D4,Ab]; rfl
 | succ k=>rw[Oa,My,MI]; simp only[Il,IH,AZ,AQ,Bc,Ba,Bb,Be,Bd,AW,Bf,Ap,A7,Bg,Aj,Ar,Aq,Al]
theorem UX (k:Nat) (x1:Option Addr) (x2:Int) (σ:Aa):fn P (XK Kn.b) H k 212 [.agg #[],.pointer x1,.int .i64 x2] σ=D4 k x1 x2 σ:=by
 simp only[D4,Ab]
noncomputable def Ln (k:Nat) (x0:Option Addr) (x1:Int) (σ:Aa):Option (Value × Aa):=match k with
 | 0=>none
 | k+1=>(fP x0 fun x0=>fI x1 fun x1=>fL σ fun σ=>x0.bind fun a1=>(Ai .i64 σ a1.block (a1.off+1)).bind fun n2=>x0.bind fun a3=>(Ai .i64 σ a3.block (a3.off+0)).bind fun n4=>fB (decide ((Ad (n2-n4))≥x1)) fun y5=>some (.bool y5,σ))
theorem Rq (k:Nat) (x0:Option Addr) (x1:Int) (σ:Aa):DM k x0 x1 σ=Ln k x0 x1 σ:=by
 cases k with
 | zero=>simp only[DM,Ab]; rfl
 | succ k=>rw[PJ,Ot,Ln]; simp only[AZ,AQ,Bc,Ba,Bb,Be,Bd,AW,Bf,Ap,A7,Bg,Aj,Ar,Aq,Al]
noncomputable def Ia (k:Nat) (x0:Option Addr) (x1:Int) (σ:Aa):Option (Value × Aa):=match k with
 | 0=>none
 | k+1=>(fP x0 fun x0=>fI x1 fun x1=>fL σ fun σ=>x0.bind fun a1=>(Ai .i64 σ a1.block (a1.off+0)).bind fun n2=>x0.bind fun a3=>Wq σ a3.block (a3.off+0) (.int .i64 (Ad (n2+x1))) fun s4=>x0.bind fun a5=>(Ai .i64 s4 a5.block (a5.off+0)).bind fun n6=>fI (Ad (n6-x1)) fun y7=>some (.int .i64 y7,s4))
theorem Qv (k:Nat) (x0:Option Addr) (x1:Int) (σ:Aa):Dm k x0 x1 σ=Ia k x0 x1 σ:=by
 cases k with
 | zero=>simp only[Dm,Ab]; rfl
 | succ k=>rw[Pd,Ns,Ia]; simp only[AZ,AQ,Bc,Ba,Bb,Be,Bd,AW,Bf,Ap,A7,Bg,Aj,Ar,Aq,Al]
noncomputable def Gs (k:Nat) (x0:Option Addr) (x1:Option Addr) (x2:Int) (σ:Aa):Option (Value × Aa):=match k with
 | 0=>none
 | k+1=>(fP x0 fun x0=>fP x1 fun x1=>fI x2 fun x2=>fL σ fun σ=>(Ln k x1 x2 σ).bind fun r1=>(Eh r1.1).bind fun b2=>(bif !b2 then ((Ff k x0 r1.2).bind fun r3=>(Yu r3.1).bind fun q4=>if q4.length=2 then q4.head?.bind fun v5=>dq v5 fun n6 n7=>q4.tail.head?.bind fun v8=>(Eh v8).bind fun b9=>CF r3.2 (.cells [.int .i64 (0:Int),.int .i64 (0:Int)] 120 true) fun h10 s11=>Ua s11 h10 0 [.int .i64 n6,.int .i64 n7] fun s12=>bif !b9 then (some (.ret,[.int .i64 (0:Int),.bool false],s12)) else ((Ai .i64 s12 h10 0).bind fun n13=>(Ai .i64 s12 h10 (0+1)).bind fun n14=>x1.bind fun a15=>Ua s12 a15.block a15.off [.int .i64 n13,.int .i64 n14] fun s16=>some (.normal,[],s16)) else none) else (some (.normal,[],r1.2)):Option Ay).bind fun r17=>if r17.1 = .normal then ((Ia k x1 x2 r17.2.2).bind fun r18=>(B8 .i64 r18.1).bind fun n19=>fI n19 fun y20=>fB true fun y21=>some (.tuple #[.int .i64 y20,.bool y21],r18.2)) else if r17.1 = .ret then (jP r17.2.1 fun n22 b23=>fI n22 fun y24=>fB b23 fun y25=>some (.tuple #[.int .i64 y24,.bool y25],r17.2.2)) else none)
theorem Ls (k:Nat) (x0:Option Addr) (x1:Option Addr) (x2:Int) (σ:Aa):B5 k x0 x1 x2 σ=Gs k x0 x1 x2 σ:=by
 cases k with
 | zero=>simp only[B5,Ab]; rfl
 | succ k=>rw[Ks,Io,Gs]; simp only[DL,Rq,Qv,AZ,AQ,Bc,Ba,Bb,Be,Bd,AW,Bf,Ap,A7,Bg,Aj,Ar,Aq,Al]
noncomputable def MH (k:Nat) (x1:Option Addr) (x2:Int) (σ:Aa):Option (Value × Aa):=match k with
 | 0=>none
 | k+1=>(fP x1 fun x1=>fI x2 fun x2=>fL σ fun σ=>CF σ (.cells [] 153 true) fun h1 s2=>x1.bind fun a3=>(Gs k x1 (some ⟨a3.block,a3.off+3,none⟩) x2 s2).bind fun r4=>Xl r4.1 fun n5 b6=>fI n5 fun y7=>fB b6 fun y8=>some (.tuple #[.int .i64 y7,.bool y8],r4.2))
theorem We (k:Nat) (x1:Option Addr) (x2:Int) (σ:Aa):D3 k x1 x2 σ=MH k x1 x2 σ:=by
 cases k with
 | zero=>simp only[D3,Ab]; rfl
 | succ k=>rw[NZ,Mx,MH]; simp only[Ls,AZ,AQ,Bc,Ba,Bb,Be,Bd,AW,Bf,Ap,A7,Bg,Aj,Ar,Aq,Al]
theorem UT (k:Nat) (x1:Option Addr) (x2:Int) (σ:Aa):fn P (XK Kn.b) H k 213 [.agg #[],.pointer x1,.int .i64 x2] σ=D3 k x1 x2 σ:=by
 simp only[D3,Ab]
noncomputable def Ic (k n:Nat) (h0:Nat) (c1:Nat) (i2:Int) (x10:Int) (σ:Aa):Option Ay:=match n with
 | 0=>none
 | n+1=>(fN h0 fun h0=>fN c1 fun c1=>fI i2 fun i2=>fI x10 fun x10=>fL σ fun σ=>if (8:Int)=0 then none else bif decide (x10≤(Ad (i2.tdiv (8:Int)))) then (if 0≤x10∧x10<(c1:Nat) then Wq σ h0 (0+x10.toNat*1) (.bool true) fun s11=>Ic k n h0 c1 i2 (Ad (x10+(1:Int))) s11 else none) else (some (.exit 2,[],σ)))
termination_by structural n
theorem Oj (k n:Nat) (h0:Nat) (c1:Nat) (i2:Int) (x10:Int) (σ:Aa):Du k n h0 c1 i2 x10 σ=Ic k n h0 c1 i2 x10 σ:=by
 induction n generalizing h0 c1 i2 x10 σ with
 | zero=>simp only[Du,Ab]; rfl
 | succ n ih=>rw[IW,HL,Ic]; simp only[Gz,HX,F0,ih,AZ,AQ,Bc,Ba,Bb,Be,Bd,AW,Bf,Ap,A7,Bg,Aj,Ar,Aq,Al]
noncomputable def Ib (k n:Nat) (p0:Option Addr) (h1:Nat) (c2:Nat) (p3:Option Addr) (c4:Nat) (c5:Nat) (i6:Int) (x20:Int) (σ:Aa):Option Ay:=match n with
 | 0=>none
 | n+1=>(fP p0 fun p0=>fN h1 fun h1=>fN c2 fun c2=>fP p3 fun p3=>fN c4 fun c4=>fN c5 fun c5=>fI i6 fun i6=>fI x20 fun x20=>fL σ fun σ=>bif decide (x20<i6) then (if 0≤x20∧x20<(c4:Nat) then p3.bind fun a7=>(Ai .i64 σ a7.block (a7.off+x20.toNat*1)).bind fun n8=>if (64:Int)=0 then none else if (64:Int)=0 then none else (He k p0 n8 σ).bind fun r9=>(B8 .i64 r9.1).bind fun n10=>if (8:Int)=0 then none else (Ic k k h1 c2 (Ad ((Ad ((n8.tmod (64:Int))+n10))-(1:Int))) (Ad ((n8.tmod (64:Int)).tdiv (8:Int))) r9.2).bind fun r12=>if r12.1 = .exit 2 then (Ib k n p0 h1 c2 p3 c4 c5 i6 (Ad (x20+(1:Int))) r12.2.2) else none else none) else (some (.exit 0,[],σ)))
termination_by structural n
theorem U9 (k n:Nat) (p0:Option Addr) (h1:Nat) (c2:Nat) (p3:Option Addr) (c4:Nat) (c5:Nat) (i6:Int) (x20:Int) (σ:Aa):Dt k n p0 h1 c2 p3 c4 c5 i6 x20 σ=Ib k n p0 h1 c2 p3 c4 c5 i6 x20 σ:=by
 induction n generalizing p0 h1 c2 p3 c4 c5 i6 x20 σ with
 | zero=>simp only[Dt,Ab]; rfl
 | succ n ih=>rw[IV,HK,Ib]; simp only[Gz,HX,F0,Oj,ih,AZ,AQ,Bc,Ba,Bb,Be,Bd,AW,Bf,Ap,A7,Bg,Aj,Ar,Aq,Al]
noncomputable def NO (k:Nat) (x0:Option Addr) (x1:Int) (σ:Aa):Option (Value × Aa):=match k with
 | 0=>none
 | k+1=>(fP x0 fun x0=>fI x1 fun x1=>fL σ fun σ=>(Lp k x0 x1 σ).bind fun r1=>(Eh r1.1).bind fun b2=>bif !b2 then (some (.slice none 0 0,r1.2)) else (if 0≤(8:Int)∧(8:Int)≤(8:Int)∧(8:Int)*(1:Nat)≤2 ^ 40∧(8:Int)≤2 ^ 40 then CF r1.2 (.cells (rep (8:Int).toNat [.bool false]) 4 true) fun h3 s4=>(IC k x0 x1 s4).bind fun r5=>(Hs r5.1).bind fun l6=>(Ib k k x0 h3 ((8:Int).toNat) l6.1 l6.2.1 l6.2.2 ((l6.2.1:Nat):Int) (0:Int) r5.2).bind fun r13=>if r13.1 = .exit 0 then (some (.slice (some ⟨h3,0,none⟩) ((8:Int).toNat) ((8:Int).toNat),r13.2.2)) else none else none))
theorem JB (k:Nat) (x0:Option Addr) (x1:Int) (σ:Aa):Ea k x0 x1 σ=NO k x0 x1 σ:=by
 cases k with
 | zero=>simp only[Ea,Ab]; rfl
 | succ k=>rw[HR,HJ,NO]; simp only[Gz,HX,F0,Oj,U9,AZ,AQ,Bc,Ba,Bb,Be,Bd,AW,Bf,Ap,A7,Bg,Aj,Ar,Aq,Al]
noncomputable def FQ (k n:Nat) (p0:Option Addr) (c1:Nat) (c2:Nat) (x8:Int) (σ:Aa):Option Ay:=match n with
 | 0=>none
 | n+1=>(fP p0 fun p0=>fN c1 fun c1=>fN c2 fun c2=>fI x8 fun x8=>fL σ fun σ=>(bif decide (x8<((c1:Nat):Int)) then if 0≤x8∧x8<(c1:Nat) then p0.bind fun a11=>(Xv σ a11.block (a11.off+x8.toNat*1)).bind fun b12=>some (!b12,σ) else none else some (false,σ)).bind fun r13=>bif r13.1 then (FQ k n p0 c1 c2 (Ad (x8+(1:Int))) r13.2) else (some (.exit 4,[.int .i64 x8],r13.2)))
termination_by structural n
theorem Hg (k n:Nat) (p0:Option Addr) (c1:Nat) (c2:Nat) (x8:Int) (σ:Aa):Cf k n p0 c1 c2 x8 σ=FQ k n p0 c1 c2 x8 σ:=by
 induction n generalizing p0 c1 c2 x8 σ with
 | zero=>simp only[Cf,Ab]; rfl
 | succ n ih=>rw[GC,FI,FQ]; simp only[JB,DL,CB,ih,AZ,AQ,Bc,Ba,Bb,Be,Bd,AW,Bf,Ap,A7,Bg,Aj,Ar,Aq,Al]
noncomputable def FP (k n:Nat) (p0:Option Addr) (h1:Nat) (i2:Int) (p3:Option Addr) (c4:Nat) (c5:Nat) (x7:Int) (σ:Aa):Option Ay:=match n with
 | 0=>none
 | n+1=>(fP p0 fun p0=>fN h1 fun h1=>fI i2 fun i2=>fP p3 fun p3=>fN c4 fun c4=>fN c5 fun c5=>fI x7 fun x7=>fL σ fun σ=>bif decide (x7<((c4:Nat):Int)) then ((FQ k k p3 c4 c5 x7 σ).bind fun r14=>if r14.1 = .exit 4 then (Te r14.2.1 fun n15=>(bif decide (n15>x7) then p0.bind fun a16=>(Ai .i64 r14.2.2 a16.block (a16.off+3+1)).bind fun n17=>some (decide ((Ad ((Ad (i2*(64:Int)))+(Ad (x7*(8:Int)))))≥n17),r14.2.2) else some (false,r14.2.2)).bind fun r18=>bif r18.1 then (Ua r18.2 h1 0 [.int .i64 (Ad ((Ad (i2*(64:Int)))+(Ad (x7*(8:Int))))),.int .i64 (Ad ((Ad (i2*(64:Int)))+(Ad (n15*(8:Int)))))] fun s19=>some (.ret,[.bool true],s19)) else (FP k n p0 h1 i2 p3 c4 c5 (Ad ((if n15>x7 then n15 else x7)+(1:Int))) r18.2)) else none) else (some (.exit 2,[],σ)))
termination_by structural n
theorem KA (k n:Nat) (p0:Option Addr) (h1:Nat) (i2:Int) (p3:Option Addr) (c4:Nat) (c5:Nat) (x7:Int) (σ:Aa):Ce k n p0 h1 i2 p3 c4 c5 x7 σ=FP k n p0 h1 i2 p3 c4 c5 x7 σ:=by
 induction n generalizing p0 h1 i2 p3 c4 c5 x7 σ with
 | zero=>simp only[Ce,Ab]; rfl
 | succ n ih=>rw[JN,H5,FP]; simp only[JB,DL,CB,Hg,ih,AZ,AQ,Bc,Ba,Bb,Be,Bd,AW,Bf,Ap,A7,Bg,Aj,Ar,Aq,Al]
noncomputable def FO (k n:Nat) (p0:Option Addr) (h1:Nat) (p2:Option Addr) (c3:Nat) (c4:Nat) (i5:Int) (x13:Int) (σ:Aa):Option Ay:=match n with
 | 0=>none
 | n+1=>(fP p0 fun p0=>fN h1 fun h1=>fP p2 fun p2=>fN c3 fun c3=>fN c4 fun c4=>fI i5 fun i5=>fI x13 fun x13=>fL σ fun σ=>bif decide (x13<i5) then (if 0≤x13∧x13<(c3:Nat) then p2.bind fun a5=>(Ai .i64 σ a5.block (a5.off+x13.toNat*1)).bind fun n6=>p0.bind fun a7=>(JC σ a7.block (a7.off+0)).bind fun p8=>(NO k p8 n6 σ).bind fun r9=>(Hs r9.1).bind fun l10=>(FP k k p0 h1 n6 l10.1 l10.2.1 l10.2.2 (0:Int) r9.2).bind fun r20=>if r20.1 = .exit 2 then (FO k n p0 h1 p2 c3 c4 i5 (Ad (x13+(1:Int))) r20.2.2) else if r20.1 = .ret then (mI r20.2.1 fun b21=>some (.ret,[.bool b21],r20.2.2)) else none else none) else (some (.exit 0,[],σ)))
termination_by structural n
theorem Qu (k n:Nat) (p0:Option Addr) (h1:Nat) (p2:Option Addr) (c3:Nat) (c4:Nat) (i5:Int) (x13:Int) (σ:Aa):BL k n p0 h1 p2 c3 c4 i5 x13 σ=FO k n p0 h1 p2 c3 c4 i5 x13 σ:=by
 induction n generalizing p0 h1 p2 c3 c4 i5 x13 σ with
 | zero=>simp only[BL,Ab]; rfl
 | succ n ih=>rw[GB,FH,FO]; simp only[JB,DL,CB,Hg,KA,ih,AZ,AQ,Bc,Ba,Bb,Be,Bd,AW,Bf,Ap,A7,Bg,Aj,Ar,Aq,Al]
noncomputable def JH (k:Nat) (x0:Option Addr) (σ:Aa):Option (Value × Aa):=match k with
 | 0=>none
 | k+1=>(fP x0 fun x0=>fL σ fun σ=>CF σ (.cells [.int .i64 (0:Int),.int .i64 (0:Int)] 120 true) fun h1 s2=>(Gr k x0 s2).bind fun r3=>(Hs r3.1).bind fun l4=>(FO k k x0 h1 l4.1 l4.2.1 l4.2.2 ((l4.2.1:Nat):Int) (0:Int) r3.2).bind fun r22=>if r22.1 = .exit 0 then ((Ff k x0 r22.2.2).bind fun r23=>(Yu r23.1).bind fun q24=>if q24.length=2 then q24.head?.bind fun v25=>dq v25 fun n26 n27=>q24.tail.head?.bind fun v28=>(Eh v28).bind fun b29=>Ua r23.2 h1 0 [.int .i64 n26,.int .i64 n27] fun s30=>(((TC s30 h1 0 2).bind fun v31=>some (.agg v31.toArray)).bind fun v32=>some [v32,.bool b29]).bind fun vs33=>some (Ol vs33,s30) else none) else if r22.1 = .ret then (mI r22.2.1 fun b34=>(((TC r22.2.2 h1 0 2).bind fun v35=>some (.agg v35.toArray)).bind fun v36=>some [v36,.bool b34]).bind fun vs37=>some (Ol vs37,r22.2.2)) else none)
theorem Su (k:Nat) (x0:Option Addr) (σ:Aa):CH k x0 σ=JH k x0 σ:=by
 cases k with
 | zero=>simp only[CH,Ab]; rfl
 | succ k=>rw[Lu,Jv,JH]; simp only[JB,DL,CB,Hg,KA,Qu,AZ,AQ,Bc,Ba,Bb,Be,Bd,AW,Bf,Ap,A7,Bg,Aj,Ar,Aq,Al]
noncomputable def LN (k:Nat) (x1:Option Addr) (x2:Int) (σ:Aa):Option (Value × Aa):=match k with
 | 0=>none
 | k+1=>(fP x1 fun x1=>fI x2 fun x2=>fL σ fun σ=>CF σ (.cells [] 154 true) fun h1 s2=>x1.bind fun a3=>(Ln k (some ⟨a3.block,a3.off+3,none⟩) x2 s2).bind fun r4=>(Eh r4.1).bind fun b5=>bif b5 then (x1.bind fun a6=>(Ia k (some ⟨a6.block,a6.off+3,none⟩) x2 r4.2).bind fun r7=>(B8 .i64 r7.1).bind fun n8=>fI n8 fun y9=>fB true fun y10=>some (.tuple #[.int .i64 y9,.bool y10],r7.2)) else (bif decide (x2>(8:Int)) then (x1.bind fun a11=>(Gs k x1 (some ⟨a11.block,a11.off+5,none⟩) x2 r4.2).bind fun r12=>Xl r12.1 fun n13 b14=>fI n13 fun y15=>fB b14 fun y16=>some (.tuple #[.int .i64 y15,.bool y16],r12.2)) else ((JH k x1 r4.2).bind fun r17=>(Yu r17.1).bind fun q18=>if q18.length=2 then q18.head?.bind fun v19=>dq v19 fun n20 n21=>q18.tail.head?.bind fun v22=>(Eh v22).bind fun b23=>CF r17.2 (.cells [.int .i64 (0:Int),.int .i64 (0:Int)] 120 true) fun h24 s25=>Ua s25 h24 0 [.int .i64 n20,.int .i64 n21] fun s26=>bif !b23 then (fI (0:Int) fun y27=>fB false fun y28=>some (.tuple #[.int .i64 y27,.bool y28],s26)) else ((Ai .i64 s26 h24 0).bind fun n29=>(Ai .i64 s26 h24 (0+1)).bind fun n30=>x1.bind fun a31=>Ua s26 a31.block (a31.off+3) [.int .i64 n29,.int .i64 n30] fun s32=>x1.bind fun a33=>(Ia k (some ⟨a33.block,a33.off+3,none⟩) x2 s32).bind fun r34=>(B8 .i64 r34.1).bind fun n35=>fI n35 fun y36=>fB true fun y37=>some (.tuple #[.int .i64 y36,.bool y37],r34.2)) else none)))
theorem UW (k:Nat) (x1:Option Addr) (x2:Int) (σ:Aa):Db k x1 x2 σ=LN k x1 x2 σ:=by
 cases k with
 | zero=>simp only[Db,Ab]; rfl
 | succ k=>rw[NA,LA,LN]; simp only[Ls,Rq,Qv,Su,AZ,AQ,Bc,Ba,Bb,Be,Bd,AW,Bf,Ap,A7,Bg,Aj,Ar,Aq,Al]
theorem Ux (k:Nat) (x1:Option Addr) (x2:Int) (σ:Aa):fn P (XK Kn.b) H k 217 [.agg #[],.pointer x1,.int .i64 x2] σ=Db k x1 x2 σ:=by
 simp only[Db,Ab]
noncomputable def OW (k:Nat) (n:FuncId) (l:List Value) (σ:Aa):Option (Value × Aa):=
 if n=99 then (match l with
  | [.pointer y1,.int .i64 y2]=>Jf k y1 y2 σ
  | l=>fn P (XK Kn.b) H k 99 l σ) else
 if n=199 then (match l with
  | [.agg ⟨[]⟩,.pointer y1,.int .i64 y2]=>LM k y1 y2 σ
  | l=>fn P (XK Kn.b) H k 199 l σ) else
 if n=204 then (match l with
  | [.agg ⟨[]⟩,.pointer y1,.int .i64 y2]=>MG k y1 y2 σ
  | l=>fn P (XK Kn.b) H k 204 l σ) else
 if n=212 then (match l with
  | [.agg ⟨[]⟩,.pointer y1,.int .i64 y2]=>MI k y1 y2 σ
  | l=>fn P (XK Kn.b) H k 212 l σ) else
 if n=213 then (match l with
  | [.agg ⟨[]⟩,.pointer y1,.int .i64 y2]=>MH k y1 y2 σ
  | l=>fn P (XK Kn.b) H k 213 l σ) else
 if n=217 then (match l with
  | [.agg ⟨[]⟩,.pointer y1,.int .i64 y2]=>LN k y1 y2 σ
  | l=>fn P (XK Kn.b) H k 217 l σ) else
 fn P (XK Kn.b) H k n l σ
theorem bt (k:Nat) (n:FuncId) (l:List Value) (σ:Aa):fn P (XK Kn.b) H k n l σ=OW k n l σ:=by
 unfold OW
 split
 ·rename_i hn; subst hn
  split
  ·exact (Rg k _ _ σ).trans (RS k _ _ σ)
  ·rfl
 split
 ·rename_i hn; subst hn
  split
  ·exact (Uw k _ _ σ).trans (UU k _ _ σ)
  ·rfl
 split
 ·rename_i hn; subst hn
  split
  ·exact (US k _ _ σ).trans (Wd k _ _ σ)
  ·rfl
 split
 ·rename_i hn; subst hn
  split
  ·exact (UX k _ _ σ).trans (Wf k _ _ σ)
  ·rfl
 split
 ·rename_i hn; subst hn
  split
  ·exact (UT k _ _ σ).trans (We k _ _ σ)
  ·rfl
 split
 ·rename_i hn; subst hn
  split
  ·exact (Ux k _ _ σ).trans (UW k _ _ σ)
  ·rfl
 rfl
noncomputable def Se (k:Nat) (f:Value) (args:List Value) (σ:Aa):Option (Value × Aa):=match f with
 | .func (.func n) first cap=>OW k n (first.toList++args++cap.toList) σ
 | .func (.method nm) first _=>(match first.toList++args with
   | .iface t v::rest=>(TD P t nm).bind fun n=>OW k n (v::rest) σ
   | _=>none)
 | _=>none
theorem bu (k:Nat) (f:Value) (args:List Value) (σ:Aa):Cl k f args σ=Se k f args σ:=by
 simp only[Cl,Ab]
 unfold OT Se
 simp only[bt]
 rfl
noncomputable def Bz (k:Nat) (x0:Option Addr) (x1_0:Int) (x1_1:Int) (x1_2:Int) (σ:Aa):Option (Value × Aa):=match k with
 | 0=>none
 | k+1=>(fP x0 fun x0=>fI x1_0 fun x1_0=>fI x1_1 fun x1_1=>fI x1_2 fun x1_2=>fL σ fun σ=>CF σ (.cells [.int .i64 x1_0,.int .i64 x1_1,.int .i64 x1_2] 33 true) fun h1 s2=>(JI k x0 s2).bind fun r3=>(Eh r3.1).bind fun b4=>bif !b4 then (fI (0:Int) fun y5=>fI (5:Int) fun y6=>some (.tuple #[.int .i64 y5,.int .i64 y6],r3.2)) else ((Ai .i64 r3.2 h1 0).bind fun n7=>(Ai .i64 r3.2 h1 (0+1)).bind fun n8=>(Ai .i64 r3.2 h1 (0+1+1)).bind fun n9=>(NQ k n7 n8 n9 r3.2).bind fun r10=>(Eh r10.1).bind fun b11=>bif !b11 then (fI (0:Int) fun y12=>fI (2:Int) fun y13=>some (.tuple #[.int .i64 y12,.int .i64 y13],r10.2)) else ((Ai .i64 r10.2 h1 0).bind fun n14=>(Ai .i64 r10.2 h1 (0+1)).bind fun n15=>(Ai .i64 r10.2 h1 (0+1+1)).bind fun n16=>(NR k n14 n15 n16 r10.2).bind fun r17=>(B8 .i64 r17.1).bind fun n18=>(Lo k  r17.2).bind fun r19=>(Hs r19.1).bind fun l20=>x0.bind fun a21=>(Ai .i64 r19.2 a21.block (a21.off+2)).bind fun n22=>if 0≤n22∧n22<(l20.2.1:Nat) then l20.1.bind fun a23=>(G1 r19.2 a23.block (a23.off+n22.toNat*1)).bind fun v24=>pA v24 fun v25=>(bif decide (n18>(32:Int)) then (some (.normal,[.func (.func 99) #[] #[]],r19.2)) else (some (.normal,[(.func (.method "dustcart/alloc.place") #[v25] #[])],r19.2)):Option Ay).bind fun r26=>if r26.1 = .normal then (tK r26.2.1 fun f27=>x0.bind fun a28=>(JC r26.2.2 a28.block a28.off).bind fun p29=>(Ai .i64 r26.2.2 a28.block (a28.off+1)).bind fun n30=>(Ai .i64 r26.2.2 a28.block (a28.off+1+1)).bind fun n31=>(Ai .i64 r26.2.2 a28.block (a28.off+1+1+1)).bind fun n32=>(Ai .i64 r26.2.2 a28.block (a28.off+1+1+1+1)).bind fun n33=>(Ai .i64 r26.2.2 a28.block (a28.off+1+1+1+1+1)).bind fun n34=>(Ai .i64 r26.2.2 a28.block (a28.off+1+1+1+1+1+1)).bind fun n35=>CF r26.2.2 (.cells [.pointer none,.int .i64 (0:Int),.int .i64 (0:Int),.int .i64 (0:Int),.int .i64 (0:Int),.int .i64 (0:Int),.int .i64 (0:Int)] 122 true) fun h36 s37=>Ua s37 h36 0 [.pointer p29,.int .i64 n30,.int .i64 n31,.int .i64 n32,.int .i64 n33,.int .i64 n34,.int .i64 n35] fun s38=>(Se k f27 [.pointer x0,.int .i64 n18] s38).bind fun r39=>Xl r39.1 fun n40 b41=>bif !b41 then (fI (0:Int) fun y42=>fI (6:Int) fun y43=>some (.tuple #[.int .i64 y42,.int .i64 y43],r39.2)) else (x0.bind fun a44=>(JC r39.2 a44.block (a44.off+0)).bind fun p45=>if (64:Int)=0 then none else (Kx k p45 (Ad (n40.tdiv (64:Int))) r39.2).bind fun r46=>(B8 .i64 r46.1).bind fun n47=>x0.bind fun a48=>(Ai .i64 r46.2 a48.block (a48.off+1)).bind fun n49=>(bif n47 == n49 then (x0.bind fun a50=>(JC r46.2 a50.block (a50.off+0)).bind fun p51=>(Ai .i64 r46.2 h1 0).bind fun n52=>(Ai .i64 r46.2 h1 (0+1)).bind fun n53=>(Ai .i64 r46.2 h1 (0+1+1)).bind fun n54=>(Kw k p51 n40 n52 n53 n54 r46.2).bind fun r55=>Gq r55.1 fun n56 n57=>some (.normal,[.int .i64 n57],r55.2)) else (some (.normal,[.int .i64 (5:Int)],r46.2)):Option Ay).bind fun r58=>if r58.1 = .normal then (Te r58.2.1 fun n59=>bif n59 != (0:Int) then ((JC r58.2.2 h36 0).bind fun p60=>(Ai .i64 r58.2.2 h36 (0+1)).bind fun n61=>(Ai .i64 r58.2.2 h36 (0+1+1)).bind fun n62=>(Ai .i64 r58.2.2 h36 (0+1+1+1)).bind fun n63=>(Ai .i64 r58.2.2 h36 (0+1+1+1+1)).bind fun n64=>(Ai .i64 r58.2.2 h36 (0+1+1+1+1+1)).bind fun n65=>(Ai .i64 r58.2.2 h36 (0+1+1+1+1+1+1)).bind fun n66=>x0.bind fun a67=>Ua r58.2.2 a67.block a67.off [.pointer p60,.int .i64 n61,.int .i64 n62,.int .i64 n63,.int .i64 n64,.int .i64 n65,.int .i64 n66] fun s68=>fI (0:Int) fun y69=>fI (6:Int) fun y70=>some (.tuple #[.int .i64 y69,.int .i64 y70],s68)) else (fI n40 fun y71=>fI (0:Int) fun y72=>some (.tuple #[.int .i64 y71,.int .i64 y72],r58.2.2))) else none)) else none else none)))
theorem RR (k:Nat) (x0:Option Addr) (x1_0:Int) (x1_1:Int) (x1_2:Int) (σ:Aa):AO k x0 x1_0 x1_1 x1_2 σ=Bz k x0 x1_0 x1_1 x1_2 σ:=by
 cases k with
 | zero=>simp only[AO,Ab]; rfl
 | succ k=>rw[KK,II,Bz]; simp only[Sb,RZ,MB,QN,Sv,Rr,bu,AZ,AQ,Bc,Ba,Bb,Be,Bd,AW,Bf,Ap,A7,Bg,Aj,Ar,Aq,Al]
noncomputable def RJ (k:Nat) (x0:Option Addr) (x1:Int) (x2:Int) (σ:Aa):Option (Value × Aa):=match k with
 | 0=>none
 | k+1=>(fP x0 fun x0=>fI x1 fun x1=>fI x2 fun x2=>fL σ fun σ=>(Ex k x0 σ).bind fun r1=>(B8 .i64 r1.1).bind fun n2=>(bif n2 == (0:Int) then some (true,r1.2) else some (decide (x1<(0:Int)),r1.2)).bind fun r3=>(bif r3.1 then some (true,r3.2) else some (decide (x1≥(8:Int)),r3.2)).bind fun r4=>(bif r4.1 then some (true,r4.2) else some (decide (x2<(0:Int)),r4.2)).bind fun r5=>(bif r5.1 then some (true,r5.2) else (Lo k  r5.2).bind fun r6=>(Hs r6.1).bind fun l7=>some (decide (x2≥((l7.2.1:Nat):Int)),r6.2)).bind fun r8=>bif r8.1 then (fI (1:Int) fun y9=>some (.tuple #[.pointer none,.int .i64 y9],r8.2)) else (CF r8.2 (.cells [.pointer x0,.int .i64 x1,.int .i64 x2,.int .i64 (0:Int),.int .i64 (0:Int),.int .i64 (0:Int),.int .i64 (0:Int)] 122 true) fun h10 s11=>fI (0:Int) fun y12=>some (.tuple #[.pointer (some ⟨h10,0,none⟩),.int .i64 y12],s11)))
theorem gg (k:Nat) (x0:Option Addr) (x1:Int) (x2:Int) (σ:Aa):GY k x0 x1 x2 σ=RJ k x0 x1 x2 σ:=by
 cases k with
 | zero=>simp only[GY,Ab]; rfl
 | succ k=>rw[Vd,Va,RJ]; simp only[Df,Rr,AZ,AQ,Bc,Ba,Bb,Be,Bd,AW,Bf,Ap,A7,Bg,Aj,Ar,Aq,Al]
noncomputable def ON (k:Nat) (x0:Option Addr) (x1:Int) (σ:Aa):Option (Value × Aa):=match k with
 | 0=>none
 | k+1=>(fP x0 fun x0=>fI x1 fun x1=>fL σ fun σ=>(JK k x0 x1 σ).bind fun r1=>(Eh r1.1).bind fun b2=>bif !b2 then (fI (-1:Int) fun y3=>some (.int .i64 y3,r1.2)) else ((Jh k x0 x1 r1.2).bind fun r4=>(B8 .i64 r4.1).bind fun n5=>fI n5 fun y6=>some (.int .i64 y6,r4.2)))
theorem Yk (k:Nat) (x0:Option Addr) (x1:Int) (σ:Aa):Gc k x0 x1 σ=ON k x0 x1 σ:=by
 cases k with
 | zero=>simp only[Gc,Ab]; rfl
 | succ k=>rw[PV,O6,ON]; simp only[Qa,Ij,AZ,AQ,Bc,Ba,Bb,Be,Bd,AW,Bf,Ap,A7,Bg,Aj,Ar,Aq,Al]
noncomputable def PF (k:Nat) (x0:Option Addr) (x1:Int) (σ:Aa):Option (Value × Aa):=match k with
 | 0=>none
 | k+1=>(fP x0 fun x0=>fI x1 fun x1=>fL σ fun σ=>(DQ k x0 σ).bind fun r1=>(Eh r1.1).bind fun b2=>(bif b2 then some (decide (x1≥(0:Int)),r1.2) else some (false,r1.2)).bind fun r3=>(bif r3.1 then if (2:Int)=0 then none else some ((x1.tmod (2:Int)) == (0:Int),r3.2) else some (false,r3.2)).bind fun r4=>(bif r4.1 then x0.bind fun a5=>(JC r4.2 a5.block (a5.off+2)).bind fun p6=>if (2:Int)=0 then none else (ON k p6 (Ad (x1.tdiv (2:Int))) r4.2).bind fun r7=>(B8 .i64 r7.1).bind fun n8=>some (n8 == (1:Int),r7.2) else some (false,r4.2)).bind fun r9=>fB r9.1 fun y10=>some (.bool y10,r9.2))
theorem YT (k:Nat) (x0:Option Addr) (x1:Int) (σ:Aa):GD k x0 x1 σ=PF k x0 x1 σ:=by
 cases k with
 | zero=>simp only[GD,Ab]; rfl
 | succ k=>rw[QB,P7,PF]; simp only[Ec,Yk,AZ,AQ,Bc,Ba,Bb,Be,Bd,AW,Bf,Ap,A7,Bg,Aj,Ar,Aq,Al]
noncomputable def MJ (k:Nat) (x0:Option Addr) (x1:Int) (σ:Aa):Option (Value × Aa):=match k with
 | 0=>none
 | k+1=>(fP x0 fun x0=>fI x1 fun x1=>fL σ fun σ=>(DQ k x0 σ).bind fun r1=>(Eh r1.1).bind fun b2=>bif !b2 then (fI (5:Int) fun y3=>some (.int .i64 y3,r1.2)) else ((PF k x0 x1 r1.2).bind fun r4=>(Eh r4.1).bind fun b5=>bif !b5 then (fI (4:Int) fun y6=>some (.int .i64 y6,r4.2)) else (fI (0:Int) fun y7=>some (.int .i64 y7,r4.2))))
theorem Wm (k:Nat) (x0:Option Addr) (x1:Int) (σ:Aa):Ct k x0 x1 σ=MJ k x0 x1 σ:=by
 cases k with
 | zero=>simp only[Ct,Ab]; rfl
 | succ k=>rw[Oc,M0,MJ]; simp only[Ec,YT,AZ,AQ,Bc,Ba,Bb,Be,Bd,AW,Bf,Ap,A7,Bg,Aj,Ar,Aq,Al]
noncomputable def OM (k:Nat) (x0:Option Addr) (x1:Int) (x2:Int) (σ:Aa):Option (Value × Aa):=match k with
 | 0=>none
 | k+1=>(fP x0 fun x0=>fI x1 fun x1=>fI x2 fun x2=>fL σ fun σ=>x0.bind fun a1=>(Ep σ a1.block (a1.off+1)).bind fun l2=>(Lg 3 1 (l2.1,l2.2.1,l2.2.2) (some (.int .i64 x1)) (some (.int .i64 (Ad (x1+x2)))) none σ).bind fun l3=>(if l3.2.1=0 then some σ else l3.1.bind fun a5=>JM σ a5.block a5.off (rep l3.2.1 [.int .i64 (0:Int)])).bind fun s4=>td s4 fun s4=>some (.tuple #[],s4))
theorem XO (k:Nat) (x0:Option Addr) (x1:Int) (x2:Int) (σ:Aa):FY k x0 x1 x2 σ=OM k x0 x1 x2 σ:=by
 cases k with
 | zero=>simp only[FY,Ab]; rfl
 | succ k=>rw[PT,O4,OM]; simp only[AZ,AQ,Bc,Ba,Bb,Be,Bd,AW,Bf,Ap,A7,Bg,Aj,Ar,Aq,Al]
noncomputable def OJ (k:Nat) (x0:Option Addr) (x1:Int) (σ:Aa):Option (Value × Aa):=match k with
 | 0=>none
 | k+1=>(fP x0 fun x0=>fI x1 fun x1=>fL σ fun σ=>(MJ k x0 x1 σ).bind fun r1=>(B8 .i64 r1.1).bind fun n2=>bif n2 != (0:Int) then (fI n2 fun y3=>some (.int .i64 y3,r1.2)) else (x0.bind fun a4=>(qO r1.2 a4.block (a4.off+4)).bind fun m5=>x0.bind fun a6=>(Ep r1.2 a6.block (a6.off+1)).bind fun l7=>if 0≤x1∧x1<(l7.2.1:Nat) then l7.1.bind fun a8=>(Ai .i64 r1.2 a8.block (a8.off+x1.toNat*1)).bind fun n9=>(gx r1.2 m5).bind fun es10=>td (jI r1.2 m5 (ME n9 es10)) fun s11=>x0.bind fun a12=>(JC s11 a12.block (a12.off+2)).bind fun p13=>if (2:Int)=0 then none else (Jg k p13 (Ad (x1.tdiv (2:Int))) (0:Int) s11).bind fun r14=>(B8 .i64 r14.1).bind fun n15=>x0.bind fun a16=>(JC r14.2 a16.block (a16.off+3)).bind fun p17=>if (2:Int)=0 then none else (Jg k p17 (Ad (x1.tdiv (2:Int))) (0:Int) r14.2).bind fun r18=>(B8 .i64 r18.1).bind fun n19=>(He k x0 x1 r18.2).bind fun r20=>(B8 .i64 r20.1).bind fun n21=>(OM k x0 x1 n21 r20.2).bind fun r22=>UJ r22.1 (fI (0:Int) fun y23=>some (.int .i64 y23,r22.2)) else none))
theorem XM (k:Nat) (x0:Option Addr) (x1:Int) (σ:Aa):DO k x0 x1 σ=OJ k x0 x1 σ:=by
 cases k with
 | zero=>simp only[DO,Ab]; rfl
 | succ k=>rw[PM,Ow,OJ]; simp only[Wm,F0,RN,XO,AZ,AQ,Bc,Ba,Bb,Be,Bd,AW,Bf,Ap,A7,Bg,Aj,Ar,Aq,Al]
noncomputable def Si (k:Nat)  (σ:Aa):Option (Value × Aa):=match k with
 | 0=>none
 | k+1=>(fL σ fun σ=>(TN k (4:Int) σ).bind fun r1=>UE r1.1 fun p2 n3=>(RJ k p2 (0:Int) (0:Int) r1.2).bind fun r4=>UE r4.1 fun p5 n6=>(UH P 42 (.pointer p5) (.pointer none)).bind fun e7=>(bif e7 then some (true,r4.2) else some (n6 != (0:Int),r4.2)).bind fun r8=>bif r8.1 then (fB false fun y9=>some (.bool y9,r8.2)) else ((Bz k p5 (0:Int) (4:Int) (0:Int) r8.2).bind fun r10=>Gq r10.1 fun n11 n12=>(Bz k p5 (0:Int) (0:Int) (0:Int) r10.2).bind fun r13=>Gq r13.1 fun n14 n15=>(Bz k p5 (0:Int) (4:Int) (0:Int) r13.2).bind fun r16=>Gq r16.1 fun n17 n18=>(OJ k p2 (64:Int) r16.2).bind fun r19=>(B8 .i64 r19.1).bind fun n20=>(Bz k p5 (0:Int) (2:Int) (0:Int) r19.2).bind fun r21=>Gq r21.1 fun n22 n23=>(Bz k p5 (0:Int) (2:Int) (0:Int) r21.2).bind fun r24=>Gq r24.1 fun n25 n26=>(bif n11 != (64:Int) then some (true,r24.2) else some (n12 != (0:Int),r24.2)).bind fun r27=>(bif r27.1 then some (true,r27.2) else some (n14 != (70:Int),r27.2)).bind fun r28=>(bif r28.1 then some (true,r28.2) else some (n17 != (72:Int),r28.2)).bind fun r29=>(bif r29.1 then some (true,r29.2) else some (n22 != (64:Int),r29.2)).bind fun r30=>(bif r30.1 then some (true,r30.2) else some (n25 != (78:Int),r30.2)).bind fun r31=>bif r31.1 then (fB false fun y32=>some (.bool y32,r31.2)) else ((TN k (4:Int) r31.2).bind fun r33=>UE r33.1 fun p34 n35=>(Kv k p34 (1:Int) (0:Int) r33.2).bind fun r36=>(B8 .i64 r36.1).bind fun n37=>(Kw k p34 (72:Int) (0:Int) (6:Int) (0:Int) r36.2).bind fun r38=>Gq r38.1 fun n39 n40=>(RJ k p34 (0:Int) (4:Int) r38.2).bind fun r41=>UE r41.1 fun p42 n43=>(Bz k p42 (0:Int) (6:Int) (0:Int) r41.2).bind fun r44=>Gq r44.1 fun n45 n46=>(Bz k p42 (0:Int) (6:Int) (0:Int) r44.2).bind fun r47=>Gq r47.1 fun n48 n49=>(Bz k p42 (0:Int) (30:Int) (0:Int) r47.2).bind fun r50=>Gq r50.1 fun n51 n52=>(Bz k p42 (0:Int) (8:Int) (0:Int) r50.2).bind fun r53=>Gq r53.1 fun n54 n55=>(bif n45 == (64:Int) then some (n48 == (80:Int),r53.2) else some (false,r53.2)).bind fun r56=>(bif r56.1 then some (n54 == (128:Int),r56.2) else some (false,r56.2)).bind fun r57=>(bif r57.1 then some (n55 == (0:Int),r57.2) else some (false,r57.2)).bind fun r58=>fB r58.1 fun y59=>some (.bool y59,r58.2))))
theorem cf (k:Nat)  (σ:Aa):Fp k  σ=Si k  σ:=by
 cases k with
 | zero=>simp only[Fp,Ab]; rfl
 | succ k=>rw[Vh,Wu,Si]; simp only[iR,RR,gg,MA,QN,XM,AZ,AQ,Bc,Ba,Bb,Be,Bd,AW,Bf,Ap,A7,Bg,Aj,Ar,Aq,Al]
end Go.Proofs.YtlaplcglpnlieaaGreat
