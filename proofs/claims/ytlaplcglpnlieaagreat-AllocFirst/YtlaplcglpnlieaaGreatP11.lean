/-
 PRINTED BY A PROGRAM OF THIS SESSION'S OWN (gen2.py): the functions that the examples reach, as definitions.
-/
import Derived.Test.YtlaplcglpnlieaaGreatP6
import Derived.Test.YtlaplcglpnlieaaGreatP10
set_option maxRecDepth 100000
set_option linter.unusedVariables false
set_option linter.unusedSimpArgs false
set_option linter.unusedSectionVars false
namespace Go.Proofs.YtlaplcglpnlieaaGreat
open Go Go.AX
local instance sE:Kn:=⟨false⟩
variable [AL]
noncomputable def He (k n:Nat) (p0:Option Addr) (c1:Nat) (c2:Nat) (i3:Int) (i4:Int) (x8:Int) (σ:Aa):Option Aw:=match n with
 | 0=>none
 | n+1=>(fP p0 fun p0=>fN c1 fun c1=>fN c2 fun c2=>fI i3 fun i3=>fI i4 fun i4=>fI x8 fun x8=>fL σ fun σ=>bif decide (x8<i4) then (if 0≤x8∧x8<(c1:Nat) then p0.bind fun a1=>(Ai .i64 σ a1.block (a1.off+x8.toNat*1)).bind fun n2=>bif i3 == n2 then (some (.ret,[.int .i64 x8],σ)) else (He k n p0 c1 c2 i3 i4 (Ac (x8+(1:Int))) σ) else none) else (some (.exit 0,[],σ)))
termination_by structural n
theorem Tm (k n:Nat) (p0:Option Addr) (c1:Nat) (c2:Nat) (i3:Int) (i4:Int) (x8:Int) (σ:Aa):DP k n p0 c1 c2 i3 i4 x8 σ=He k n p0 c1 c2 i3 i4 x8 σ:=by
 induction n generalizing p0 c1 c2 i3 i4 x8 σ with
 | zero=>simp only[DP,Ab]; rfl
 | succ n ih=>rw[L9,JK,He]; simp only[ih,AW,AP,Ba,AY,AZ,Bc,Bb,AV,Be,Ao,Az,Bf,Ag,Ar,Aq,Ak]
noncomputable def Mp (k:Nat) (x0:Option Addr × Nat × Nat) (x1:Int) (σ:Aa):Option (Value × Aa):=match k with
 | 0=>none
 | k+1=>(fS x0 fun x0=>fI x1 fun x1=>fL σ fun σ=>(He k k x0.1 x0.2.1 x0.2.2 x1 ((x0.2.1:Nat):Int) (0:Int) σ).bind fun r3=>if r3.1 = .exit 0 then (fI (-1:Int) fun y4=>some (.int .i64 y4,r3.2.2)) else if r3.1 = .ret then (Sw r3.2.1 fun n5=>fI n5 fun y6=>some (.int .i64 y6,r3.2.2)) else none)
theorem V2 (k:Nat) (x0:Option Addr × Nat × Nat) (x1:Int) (σ:Aa):FU k x0 x1 σ=Mp k x0 x1 σ:=by
 cases k with
 | zero=>simp only[FU,Ab]; rfl
 | succ k=>rw[NF,LX,Mp]; simp only[Tm,AW,AP,Ba,AY,AZ,Bc,Bb,AV,Be,Ao,Az,Bf,Ag,Ar,Aq,Ak]
noncomputable def JQ (k:Nat) (x0:Option Addr × Nat × Nat) (x1:Int) (σ:Aa):Option (Value × Aa):=match k with
 | 0=>none
 | k+1=>(fS x0 fun x0=>fI x1 fun x1=>fL σ fun σ=>(Mp k (x0.1,x0.2.1,x0.2.2) x1 σ).bind fun r1=>(BE .i64 r1.1).bind fun n2=>fB (decide (n2≥(0:Int))) fun y3=>some (.bool y3,r1.2))
theorem Tl (k:Nat) (x0:Option Addr × Nat × Nat) (x1:Int) (σ:Aa):EE k x0 x1 σ=JQ k x0 x1 σ:=by
 cases k with
 | zero=>simp only[EE,Ab]; rfl
 | succ k=>rw[L8,JJ,JQ]; simp only[V2,AW,AP,Ba,AY,AZ,Bc,Bb,AV,Be,Ao,Az,Bf,Ag,Ar,Aq,Ak]
noncomputable def Tg (k:Nat) (x0:Int) (x1:Int) (σ:Aa):Option (Value × Aa):=match k with
 | 0=>none
 | k+1=>(fI x0 fun x0=>fI x1 fun x1=>fL σ fun σ=>(bif decide (x0<(1:Int)) then some (true,σ) else some (decide (x0>(4096:Int)),σ)).bind fun r1=>(bif r1.1 then some (true,r1.2) else CA r1.2 (.cells [.int .i64 (1:Int),.int .i64 (2:Int),.int .i64 (4:Int),.int .i64 (8:Int)] 3 true) fun h2 s3=>(JQ k (some ⟨h2,0,none⟩,4,4) x1 s3).bind fun r4=>(Ed r4.1).bind fun b5=>some (!b5,r4.2)).bind fun r6=>bif r6.1 then (fI (1:Int) fun y7=>some (.tuple #[.pointer none,.int .i64 y7],r6.2)) else (if (64:Int)=0 then none else if 0≤(Ac ((Ac ((Ac ((Ac (x0*x1))+(64:Int)))-(1:Int))).tdiv (64:Int)))∧(Ac ((Ac ((Ac ((Ac (x0*x1))+(64:Int)))-(1:Int))).tdiv (64:Int)))≤(Ac ((Ac ((Ac ((Ac (x0*x1))+(64:Int)))-(1:Int))).tdiv (64:Int)))∧(Ac ((Ac ((Ac ((Ac (x0*x1))+(64:Int)))-(1:Int))).tdiv (64:Int)))*(8:Nat)≤2 ^ 40∧(Ac ((Ac ((Ac ((Ac (x0*x1))+(64:Int)))-(1:Int))).tdiv (64:Int)))≤2 ^ 40 then CA r6.2 (.cells (rep (Ac ((Ac ((Ac ((Ac (x0*x1))+(64:Int)))-(1:Int))).tdiv (64:Int))).toNat [.int .u64 (0:Int)]) 138 true) fun h8 s9=>CA s9 (.cells [.int .i64 x0,.int .i64 x1,.slice (some ⟨h8,0,none⟩) ((Ac ((Ac ((Ac ((Ac (x0*x1))+(64:Int)))-(1:Int))).tdiv (64:Int))).toNat) ((Ac ((Ac ((Ac ((Ac (x0*x1))+(64:Int)))-(1:Int))).tdiv (64:Int))).toNat)] 136 true) fun h10 s11=>fI (0:Int) fun y12=>some (.tuple #[.pointer (some ⟨h10,0,none⟩),.int .i64 y12],s11) else none))
theorem gX (k:Nat) (x0:Int) (x1:Int) (σ:Aa):LZ k x0 x1 σ=Tg k x0 x1 σ:=by
 cases k with
 | zero=>simp only[LZ,Ab]; rfl
 | succ k=>rw[VG,Wb,Tg]; simp only[Tl,AW,AP,Ba,AY,AZ,Bc,Bb,AV,Be,Ao,Az,Bf,Ag,Ar,Aq,Ak]
noncomputable def Td (k:Nat) (x0:Int) (σ:Aa):Option (Value × Aa):=match k with
 | 0=>none
 | k+1=>(fI x0 fun x0=>fL σ fun σ=>(bif decide (x0<(2:Int)) then some (true,σ) else some (decide (x0>(64:Int)),σ)).bind fun r1=>bif r1.1 then (fI (1:Int) fun y2=>some (.tuple #[.pointer none,.int .i64 y2],r1.2)) else (if 0≤x0∧x0≤x0∧x0*(16:Nat)≤2 ^ 40∧x0≤2 ^ 40 then CA r1.2 (.cells (rep x0.toNat [.int .i64 (0:Int),.int .i64 (0:Int)]) 104 true) fun h3 s4=>if 0≤(Ac (x0*(64:Int)))∧(Ac (x0*(64:Int)))≤(Ac (x0*(64:Int)))∧(Ac (x0*(64:Int)))*(8:Nat)≤2 ^ 40∧(Ac (x0*(64:Int)))≤2 ^ 40 then CA s4 (.cells (rep (Ac (x0*(64:Int))).toNat [.int .i64 (0:Int)]) 3 true) fun h5 s6=>CA s6 (.map []) fun h7 s8=>CA s8 (.map []) fun h9 s10=>CA s10 (.cells [.slice (some ⟨h3,0,none⟩) x0.toNat x0.toNat,.slice (some ⟨h5,0,none⟩) ((Ac (x0*(64:Int))).toNat) ((Ac (x0*(64:Int))).toNat),.pointer none,.pointer none,.map (some h7),.map (some h9),.int .i64 (0:Int)] 94 true) fun h11 s12=>(Eo s12 h11 (0+1)).bind fun l13=>if (2:Int)=0 then none else (Tg k (Ac (((l13.2.1:Nat):Int).tdiv (2:Int))) (1:Int) s12).bind fun r14=>TP r14.1 fun p15 n16=>V4 r14.2 h11 (0+2) (.pointer p15) fun s17=>(Eo s17 h11 (0+1)).bind fun l18=>if (2:Int)=0 then none else (Tg k (Ac (((l18.2.1:Nat):Int).tdiv (2:Int))) (1:Int) s17).bind fun r19=>TP r19.1 fun p20 n21=>V4 r19.2 h11 (0+3) (.pointer p20) fun s22=>fI (0:Int) fun y23=>some (.tuple #[.pointer (some ⟨h11,0,none⟩),.int .i64 y23],s22) else none else none))
theorem gm (k:Nat) (x0:Int) (σ:Aa):G3 k x0 σ=Td k x0 σ:=by
 cases k with
 | zero=>simp only[G3,Ab]; rfl
 | succ k=>rw[Ro,SA,Td]; simp only[gX,AW,AP,Ba,AY,AZ,Bc,Bb,AV,Be,Ao,Az,Bf,Ag,Ar,Aq,Ak]
noncomputable def Nz (k:Nat) (x0_0:Int) (x0_1:Int) (x0_2:Int) (σ:Aa):Option (Value × Aa):=match k with
 | 0=>none
 | k+1=>(fI x0_0 fun x0_0=>fI x0_1 fun x0_1=>fI x0_2 fun x0_2=>fL σ fun σ=>CA σ (.cells [.int .i64 x0_0,.int .i64 x0_1,.int .i64 x0_2] 33 true) fun h1 s2=>(Ai .i64 s2 h1 (0+0)).bind fun n3=>(bif decide (n3≥(0:Int)) then (Ai .i64 s2 h1 (0+0)).bind fun n4=>some (decide (n4≤(15:Int)),s2) else some (false,s2)).bind fun r5=>(bif r5.1 then (Ai .i64 r5.2 h1 (0+1)).bind fun n6=>some (decide (n6≥(0:Int)),r5.2) else some (false,r5.2)).bind fun r7=>(bif r7.1 then (Ai .i64 r7.2 h1 (0+1)).bind fun n8=>some (decide (n8≤(200:Int)),r7.2) else some (false,r7.2)).bind fun r9=>(bif r9.1 then (Ai .i64 r9.2 h1 (0+2)).bind fun n10=>some (decide (n10≥(0:Int)),r9.2) else some (false,r9.2)).bind fun r11=>(bif r11.1 then (Ai .i64 r11.2 h1 (0+2)).bind fun n12=>some (decide (n12≤(3:Int)),r11.2) else some (false,r11.2)).bind fun r13=>(bif r13.1 then (Ai .i64 r13.2 h1 (0+2)).bind fun n14=>(bif n14 != (1:Int) then some (true,r13.2) else (Ai .i64 r13.2 h1 (0+0)).bind fun n15=>some (decide (n15≥(1:Int)),r13.2)).bind fun r16=>some (r16.1,r16.2) else some (false,r13.2)).bind fun r17=>(bif r17.1 then (Ai .i64 r17.2 h1 (0+2)).bind fun n18=>(bif n18 != (2:Int) then some (true,r17.2) else (Ai .i64 r17.2 h1 (0+0)).bind fun n19=>some (decide (n19≥(2:Int)),r17.2)).bind fun r20=>some (r20.1,r20.2) else some (false,r17.2)).bind fun r21=>fB r21.1 fun y22=>some (.bool y22,r21.2))
theorem Rs (k:Nat) (x0_0:Int) (x0_1:Int) (x0_2:Int) (σ:Aa):Fm k x0_0 x0_1 x0_2 σ=Nz k x0_0 x0_1 x0_2 σ:=by
 cases k with
 | zero=>simp only[Fm,Ab]; rfl
 | succ k=>rw[Tx,SB,Nz]; simp only[AW,AP,Ba,AY,AZ,Bc,Bb,AV,Be,Ao,Az,Bf,Ag,Ar,Aq,Ak]
noncomputable def N0 (k:Nat) (x0_0:Int) (x0_1:Int) (x0_2:Int) (σ:Aa):Option (Value × Aa):=match k with
 | 0=>none
 | k+1=>(fI x0_0 fun x0_0=>fI x0_1 fun x0_1=>fI x0_2 fun x0_2=>fL σ fun σ=>CA σ (.cells [.int .i64 x0_0,.int .i64 x0_1,.int .i64 x0_2] 33 true) fun h1 s2=>(Ai .i64 s2 h1 0).bind fun n3=>(Ai .i64 s2 h1 (0+1)).bind fun n4=>(Ai .i64 s2 h1 (0+1+1)).bind fun n5=>(Nz k n3 n4 n5 s2).bind fun r6=>(Ed r6.1).bind fun b7=>bif !b7 then (fI (0:Int) fun y8=>some (.int .i64 y8,r6.2)) else ((Ai .i64 r6.2 h1 (0+0)).bind fun n9=>(Ai .i64 r6.2 h1 (0+1)).bind fun n10=>if (2:Int)=0 then none else fI (Ac ((Ac ((Ac ((Ac ((Ac ((2:Int)+n9))+n10))+(1:Int))).tdiv (2:Int)))*(2:Int))) fun y11=>some (.int .i64 y11,r6.2)))
theorem Ru (k:Nat) (x0_0:Int) (x0_1:Int) (x0_2:Int) (σ:Aa):Es k x0_0 x0_1 x0_2 σ=N0 k x0_0 x0_1 x0_2 σ:=by
 cases k with
 | zero=>simp only[Es,Ab]; rfl
 | succ k=>rw[Ty,SC,N0]; simp only[Rs,AW,AP,Ba,AY,AZ,Bc,Bb,AV,Be,Ao,Az,Bf,Ag,Ar,Aq,Ak]
noncomputable def DH (k:Nat) (x0:Option Addr) (σ:Aa):Option (Value × Aa):=match k with
 | 0=>none
 | k+1=>(fP x0 fun x0=>fL σ fun σ=>(UT P 25 (.pointer x0) (.pointer none)).bind fun e1=>(bif !e1 then x0.bind fun a2=>(Eo σ a2.block (a2.off+0)).bind fun l3=>some (decide (((l3.2.1:Nat):Int)>(0:Int)),σ) else some (false,σ)).bind fun r4=>fB r4.1 fun y5=>some (.bool y5,r4.2))
theorem DV (k:Nat) (x0:Option Addr) (σ:Aa):AH k x0 σ=DH k x0 σ:=by
 cases k with
 | zero=>simp only[AH,Ab]; rfl
 | succ k=>rw[Pp,NS,DH]; simp only[AW,AP,Ba,AY,AZ,Bc,Bb,AV,Be,Ao,Az,Bf,Ag,Ar,Aq,Ak]
noncomputable def Em (k:Nat) (x0:Option Addr) (σ:Aa):Option (Value × Aa):=match k with
 | 0=>none
 | k+1=>(fP x0 fun x0=>fL σ fun σ=>(DH k x0 σ).bind fun r1=>(Ed r1.1).bind fun b2=>bif !b2 then (fI (0:Int) fun y3=>some (.int .i64 y3,r1.2)) else (x0.bind fun a4=>(Eo r1.2 a4.block (a4.off+0)).bind fun l5=>fI ((l5.2.1:Nat):Int) fun y6=>some (.int .i64 y6,r1.2)))
theorem CW (k:Nat) (x0:Option Addr) (σ:Aa):AA k x0 σ=Em k x0 σ:=by
 cases k with
 | zero=>simp only[AA,Ab]; rfl
 | succ k=>rw[N9,LR,Em]; simp only[DV,AW,AP,Ba,AY,AZ,Bc,Bb,AV,Be,Ao,Az,Bf,Ag,Ar,Aq,Ak]
noncomputable def JZ (k:Nat) (x0:Option Addr) (x1:Int) (σ:Aa):Option (Value × Aa):=match k with
 | 0=>none
 | k+1=>(fP x0 fun x0=>fI x1 fun x1=>fL σ fun σ=>(bif decide (x1<(0:Int)) then some (true,σ) else (Em k x0 σ).bind fun r1=>(BE .i64 r1.1).bind fun n2=>some (decide (x1≥n2),r1.2)).bind fun r3=>bif r3.1 then (fI (-1:Int) fun y4=>some (.int .i64 y4,r3.2)) else (x0.bind fun a5=>(Eo r3.2 a5.block (a5.off+0)).bind fun l6=>if 0≤x1∧x1<(l6.2.1:Nat) then l6.1.bind fun a7=>(Ai .i64 r3.2 a7.block (a7.off+x1.toNat*2+1)).bind fun n8=>fI n8 fun y9=>some (.int .i64 y9,r3.2) else none))
theorem Mc (k:Nat) (x0:Option Addr) (x1:Int) (σ:Aa):Bx k x0 x1 σ=JZ k x0 x1 σ:=by
 cases k with
 | zero=>simp only[Bx,Ab]; rfl
 | succ k=>rw[Kv,JS,JZ]; simp only[CW,AW,AP,Ba,AY,AZ,Bc,Bb,AV,Be,Ao,Az,Bf,Ag,Ar,Aq,Ak]
noncomputable def Ir (k n:Nat) (p0:Option Addr) (i1:Int) (x5:Int) (σ:Aa):Option Aw:=match n with
 | 0=>none
 | n+1=>(fP p0 fun p0=>fI i1 fun i1=>fI x5 fun x5=>fL σ fun σ=>p0.bind fun a1=>(Eo σ a1.block (a1.off+0)).bind fun l2=>if 0≤i1∧i1<(l2.2.1:Nat) then l2.1.bind fun a3=>(Ai .i64 σ a3.block (a3.off+i1.toNat*2+0)).bind fun n4=>(bif n4 == (2:Int) then p0.bind fun a5=>(Eo σ a5.block (a5.off+0)).bind fun l6=>some (decide ((Ac (i1+x5))<((l6.2.1:Nat):Int)),σ) else some (false,σ)).bind fun r7=>(bif r7.1 then p0.bind fun a8=>(Eo r7.2 a8.block (a8.off+0)).bind fun l9=>if 0≤(Ac (i1+x5))∧(Ac (i1+x5))<(l9.2.1:Nat) then l9.1.bind fun a10=>(Ai .i64 r7.2 a10.block (a10.off+(Ac (i1+x5)).toNat*2+0)).bind fun n11=>some (n11 == (3:Int),r7.2) else none else some (false,r7.2)).bind fun r12=>bif r12.1 then (Ir k n p0 i1 (Ac (x5+(1:Int))) r12.2) else (some (.exit 0,[.int .i64 x5],r12.2)) else none)
termination_by structural n
theorem U3 (k n:Nat) (p0:Option Addr) (i1:Int) (x5:Int) (σ:Aa):DI k n p0 i1 x5 σ=Ir k n p0 i1 x5 σ:=by
 induction n generalizing p0 i1 x5 σ with
 | zero=>simp only[DI,Ab]; rfl
 | succ n ih=>rw[Jh,Ii,Ir]; simp only[ih,AW,AP,Ba,AY,AZ,Bc,Bb,AV,Be,Ao,Az,Bf,Ag,Ar,Aq,Ak]
noncomputable def Ol (k:Nat) (x0:Option Addr) (x1:Int) (σ:Aa):Option (Value × Aa):=match k with
 | 0=>none
 | k+1=>(fP x0 fun x0=>fI x1 fun x1=>fL σ fun σ=>(Ir k k x0 x1 (1:Int) σ).bind fun r13=>if r13.1 = .exit 0 then (Sw r13.2.1 fun n14=>fI n14 fun y15=>some (.int .i64 y15,r13.2.2)) else none)
theorem QW (k:Nat) (x0:Option Addr) (x1:Int) (σ:Aa):CY k x0 x1 σ=Ol k x0 x1 σ:=by
 cases k with
 | zero=>simp only[CY,Ab]; rfl
 | succ k=>rw[Pr,NU,Ol]; simp only[U3,AW,AP,Ba,AY,AZ,Bc,Bb,AV,Be,Ao,Az,Bf,Ag,Ar,Aq,Ak]
noncomputable def Te (k:Nat) (x0:Int) (σ:Aa):Option (Value × Aa):=match k with
 | 0=>none
 | k+1=>(fI x0 fun x0=>fL σ fun σ=>CA σ (.cells [.int .i64 (0:Int),.int .i64 (0:Int),.int .i64 (0:Int)] 33 true) fun h1 s2=>if (16:Int)=0 then none else if (4096:Int)=0 then none else if (16:Int)=0 then none else if (4096:Int)=0 then none else To s2 h1 0 [.int .i64 (x0.tmod (16:Int)),.int .i64 (Ac ((x0.tmod (4096:Int)).tdiv (16:Int))),.int .i64 (Ac (x0.tdiv (4096:Int)))] fun s3=>(((VI s3 h1 0 3).bind fun v4=>some (.agg v4.toArray)).bind fun v5=>some [v5]).bind fun vs6=>some (Qw vs6,s3))
theorem cb (k:Nat) (x0:Int) (σ:Aa):Ji k x0 σ=Te k x0 σ:=by
 cases k with
 | zero=>simp only[Ji,Ab]; rfl
 | succ k=>rw[Tz,SD,Te]; simp only[AW,AP,Ba,AY,AZ,Bc,Bb,AV,Be,Ao,Az,Bf,Ag,Ar,Aq,Ak]
noncomputable def GO (k:Nat) (x0:Option Addr) (x1:Int) (σ:Aa):Option (Value × Aa):=match k with
 | 0=>none
 | k+1=>(fP x0 fun x0=>fI x1 fun x1=>fL σ fun σ=>x0.bind fun a1=>(Eo σ a1.block (a1.off+1)).bind fun l2=>if 0≤(Ac (x1+(1:Int)))∧(Ac (x1+(1:Int)))<(l2.2.1:Nat) then l2.1.bind fun a3=>(Ai .i64 σ a3.block (a3.off+(Ac (x1+(1:Int))).toNat*1)).bind fun n4=>(Te k n4 σ).bind fun r5=>jM r5.1 fun n6 n7 n8=>(N0 k n6 n7 n8 r5.2).bind fun r9=>(BE .i64 r9.1).bind fun n10=>fI n10 fun y11=>some (.int .i64 y11,r9.2) else none)
theorem Ft (k:Nat) (x0:Option Addr) (x1:Int) (σ:Aa):BS k x0 x1 σ=GO k x0 x1 σ:=by
 cases k with
 | zero=>simp only[BS,Ab]; rfl
 | succ k=>rw[Pq,NT,GO]; simp only[Ru,cb,AW,AP,Ba,AY,AZ,Bc,Bb,AV,Be,Ao,Az,Bf,Ag,Ar,Aq,Ak]
noncomputable def Gu (k:Nat) (x0:Option Addr) (σ:Aa):Option (Value × Aa):=match k with
 | 0=>none
 | k+1=>(fP x0 fun x0=>fL σ fun σ=>(UT P 92 (.pointer x0) (.pointer none)).bind fun e1=>(bif !e1 then x0.bind fun a2=>(Ai .i64 σ a2.block (a2.off+0)).bind fun n3=>some (decide (n3>(0:Int)),σ) else some (false,σ)).bind fun r4=>fB r4.1 fun y5=>some (.bool y5,r4.2))
theorem FX (k:Nat) (x0:Option Addr) (σ:Aa):BV k x0 σ=Gu k x0 σ:=by
 cases k with
 | zero=>simp only[BV,Ab]; rfl
 | succ k=>rw[OJ,MY,Gu]; simp only[AW,AP,Ba,AY,AZ,Bc,Bb,AV,Be,Ao,Az,Bf,Ag,Ar,Aq,Ak]
noncomputable def HO (k:Nat) (x0:Option Addr) (σ:Aa):Option (Value × Aa):=match k with
 | 0=>none
 | k+1=>(fP x0 fun x0=>fL σ fun σ=>x0.bind fun a1=>(Ai .i64 σ a1.block (a1.off+1)).bind fun n2=>if n2<0 then none else fI (Ac ((Ac ((1:Int)*2 ^ (min n2.toNat 64)))-(1:Int))) fun y3=>some (.int .i64 y3,σ))
theorem Mq (k:Nat) (x0:Option Addr) (σ:Aa):CJ k x0 σ=HO k x0 σ:=by
 cases k with
 | zero=>simp only[CJ,Ab]; rfl
 | succ k=>rw[OK,MZ,HO]; simp only[AW,AP,Ba,AY,AZ,Bc,Bb,AV,Be,Ao,Az,Bf,Ag,Ar,Aq,Ak]
noncomputable def IH (k:Nat) (x0:Option Addr) (x1:Int) (σ:Aa):Option (Value × Aa):=match k with
 | 0=>none
 | k+1=>(fP x0 fun x0=>fI x1 fun x1=>fL σ fun σ=>x0.bind fun a1=>(Ai .i64 σ a1.block (a1.off+1)).bind fun n2=>x0.bind fun a3=>(Eo σ a3.block (a3.off+2)).bind fun l4=>if (64:Int)=0 then none else if 0≤(Ac ((Ac (x1*n2)).tdiv (64:Int)))∧(Ac ((Ac (x1*n2)).tdiv (64:Int)))<(l4.2.1:Nat) then l4.1.bind fun a5=>(Ai .u64 σ a5.block (a5.off+(Ac ((Ac (x1*n2)).tdiv (64:Int))).toNat*1)).bind fun n6=>if (64:Int)=0 then none else if ((Ac (x1*n2)).tmod (64:Int))<0 then none else (HO k x0 σ).bind fun r7=>(BE .i64 r7.1).bind fun n8=>fI (Ac ((BitVec.ofInt 64 (Ac (n6.fdiv (2 ^ (min ((Ac (x1*n2)).tmod (64:Int)).toNat 64)))) &&& BitVec.ofInt 64 n8).toNat)) fun y9=>some (.int .i64 y9,r7.2) else none)
theorem HP (k:Nat) (x0:Option Addr) (x1:Int) (σ:Aa):Da k x0 x1 σ=IH k x0 x1 σ:=by
 cases k with
 | zero=>simp only[Da,Ab]; rfl
 | succ k=>rw[Pw,NZ,IH]; simp only[Mq,AW,AP,Ba,AY,AZ,Bc,Bb,AV,Be,Ao,Az,Bf,Ag,Ar,Aq,Ak]
noncomputable def HL (k n:Nat) (p0:Option Addr) (i1:Int) (x8:Int) (σ:Aa):Option Aw:=match n with
 | 0=>none
 | n+1=>(fP p0 fun p0=>fI i1 fun i1=>fI x8 fun x8=>fL σ fun σ=>bif decide (x8≥(0:Int)) then ((IH k p0 x8 σ).bind fun r7=>(BE .i64 r7.1).bind fun n8=>bif n8 == i1 then (some (.ret,[.int .i64 x8,.int .i64 (0:Int)],r7.2)) else (HL k n p0 i1 (Ac (x8-(1:Int))) r7.2)) else (some (.exit 0,[],σ)))
termination_by structural n
theorem TQ (k n:Nat) (p0:Option Addr) (i1:Int) (x8:Int) (σ:Aa):Dm k n p0 i1 x8 σ=HL k n p0 i1 x8 σ:=by
 induction n generalizing p0 i1 x8 σ with
 | zero=>simp only[Dm,Ab]; rfl
 | succ n ih=>rw[IB,H0,HL]; simp only[FX,HP,ih,AW,AP,Ba,AY,AZ,Bc,Bb,AV,Be,Ao,Az,Bf,Ag,Ar,Aq,Ak]
noncomputable def N1 (k:Nat) (x0:Option Addr) (x1:Int) (x2:Int) (σ:Aa):Option (Value × Aa):=match k with
 | 0=>none
 | k+1=>(fP x0 fun x0=>fI x1 fun x1=>fI x2 fun x2=>fL σ fun σ=>(Gu k x0 σ).bind fun r1=>(Ed r1.1).bind fun b2=>bif !b2 then (fI (0:Int) fun y3=>fI (5:Int) fun y4=>some (.tuple #[.int .i64 y3,.int .i64 y4],r1.2)) else (x0.bind fun a5=>(Ai .i64 r1.2 a5.block (a5.off+0)).bind fun n6=>(HL k k x0 x2 (Ac ((if n6<(if (0:Int)>x1 then (0:Int) else x1) then n6 else (if (0:Int)>x1 then (0:Int) else x1))-(1:Int))) r1.2).bind fun r9=>if r9.1 = .exit 0 then (fI (0:Int) fun y10=>fI (4:Int) fun y11=>some (.tuple #[.int .i64 y10,.int .i64 y11],r9.2.2)) else if r9.1 = .ret then (Sx r9.2.1 fun n12 n13=>fI n12 fun y14=>fI n13 fun y15=>some (.tuple #[.int .i64 y14,.int .i64 y15],r9.2.2)) else none))
theorem W7 (k:Nat) (x0:Option Addr) (x1:Int) (x2:Int) (σ:Aa):Fs k x0 x1 x2 σ=N1 k x0 x1 x2 σ:=by
 cases k with
 | zero=>simp only[Fs,Ab]; rfl
 | succ k=>rw[OH,MW,N1]; simp only[FX,HP,TQ,AW,AP,Ba,AY,AZ,Bc,Bb,AV,Be,Ao,Az,Bf,Ag,Ar,Aq,Ak]
noncomputable def Oh (k:Nat) (x0:Option Addr) (x1:Int) (σ:Aa):Option (Value × Aa):=match k with
 | 0=>none
 | k+1=>(fP x0 fun x0=>fI x1 fun x1=>fL σ fun σ=>(DH k x0 σ).bind fun r1=>(Ed r1.1).bind fun b2=>bif !b2 then (fI (0:Int) fun y3=>fI (5:Int) fun y4=>some (.tuple #[.int .i64 y3,.int .i64 y4],r1.2)) else ((bif decide (x1<(0:Int)) then some (true,r1.2) else x0.bind fun a5=>(Eo r1.2 a5.block (a5.off+1)).bind fun l6=>some (decide (x1≥((l6.2.1:Nat):Int)),r1.2)).bind fun r7=>bif r7.1 then (fI (0:Int) fun y8=>fI (4:Int) fun y9=>some (.tuple #[.int .i64 y8,.int .i64 y9],r7.2)) else (x0.bind fun a10=>(Jn r7.2 a10.block (a10.off+2)).bind fun p11=>if (2:Int)=0 then none else (N1 k p11 (Ac ((Ac (x1.tdiv (2:Int)))+(1:Int))) (1:Int) r7.2).bind fun r12=>Gp r12.1 fun n13 n14=>(bif n14 != (0:Int) then some (true,r12.2) else (GO k x0 (Ac ((2:Int)*n13)) r12.2).bind fun r15=>(BE .i64 r15.1).bind fun n16=>some (decide (x1≥(Ac ((Ac ((2:Int)*n13))+n16))),r15.2)).bind fun r17=>bif r17.1 then (fI (0:Int) fun y18=>fI (4:Int) fun y19=>some (.tuple #[.int .i64 y18,.int .i64 y19],r17.2)) else (fI (Ac ((2:Int)*n13)) fun y20=>fI (0:Int) fun y21=>some (.tuple #[.int .i64 y20,.int .i64 y21],r17.2)))))
theorem QV (k:Nat) (x0:Option Addr) (x1:Int) (σ:Aa):FM k x0 x1 σ=Oh k x0 x1 σ:=by
 cases k with
 | zero=>simp only[FM,Ab]; rfl
 | succ k=>rw[Pm,NP,Oh]; simp only[DV,Ft,W7,AW,AP,Ba,AY,AZ,Bc,Bb,AV,Be,Ao,Az,Bf,Ag,Ar,Aq,Ak]
noncomputable def Iq (k n:Nat) (p0:Option Addr) (i1:Int) (i2:Int) (i3:Int) (x10:Int) (σ:Aa):Option Aw:=match n with
 | 0=>none
 | n+1=>(fP p0 fun p0=>fI i1 fun i1=>fI i2 fun i2=>fI i3 fun i3=>fI x10 fun x10=>fL σ fun σ=>bif decide (x10<(Ac (i1+i2))) then ((Oh k p0 x10 σ).bind fun r20=>Gp r20.1 fun n21 n22=>(bif n22 == (0:Int) then some (n21 != i3,r20.2) else some (false,r20.2)).bind fun r23=>bif r23.1 then (some (.ret,[.int .i64 (8:Int)],r23.2)) else (Iq k n p0 i1 i2 i3 (Ac (x10+(2:Int))) r23.2)) else (some (.exit 0,[],σ)))
termination_by structural n
theorem U2 (k n:Nat) (p0:Option Addr) (i1:Int) (i2:Int) (i3:Int) (x10:Int) (σ:Aa):CV k n p0 i1 i2 i3 x10 σ=Iq k n p0 i1 i2 i3 x10 σ:=by
 induction n generalizing p0 i1 i2 i3 x10 σ with
 | zero=>simp only[CV,Ab]; rfl
 | succ n ih=>rw[Jg,Ih,Iq]; simp only[QW,QV,ih,AW,AP,Ba,AY,AZ,Bc,Bb,AV,Be,Ao,Az,Bf,Ag,Ar,Aq,Ak]
noncomputable def Ok (k:Nat) (x0:Option Addr) (x1:Int) (x2:Int) (x3:Int) (σ:Aa):Option (Value × Aa):=match k with
 | 0=>none
 | k+1=>(fP x0 fun x0=>fI x1 fun x1=>fI x2 fun x2=>fI x3 fun x3=>fL σ fun σ=>(bif decide (x1<(0:Int)) then some (true,σ) else x0.bind fun a1=>(Eo σ a1.block (a1.off+1)).bind fun l2=>some (decide (x1≥((l2.2.1:Nat):Int)),σ)).bind fun r3=>(bif r3.1 then some (true,r3.2) else if (2:Int)=0 then none else some ((x1.tmod (2:Int)) != (0:Int),r3.2)).bind fun r4=>bif r4.1 then (fI (1:Int) fun y5=>some (.int .i64 y5,r4.2)) else (if (64:Int)=0 then none else (bif decide (x2≤(32:Int)) then (x0.bind fun a6=>(Eo r4.2 a6.block (a6.off+0)).bind fun l7=>if 0≤(Ac (x1.tdiv (64:Int)))∧(Ac (x1.tdiv (64:Int)))<(l7.2.1:Nat) then l7.1.bind fun a8=>(Ai .i64 r4.2 a8.block (a8.off+(Ac (x1.tdiv (64:Int))).toNat*2+0)).bind fun n9=>(bif n9 != (1:Int) then some (true,r4.2) else if (64:Int)=0 then none else some ((Ac ((Ac ((Ac (x1+x2))-(1:Int))).tdiv (64:Int))) != (Ac (x1.tdiv (64:Int))),r4.2)).bind fun r10=>bif r10.1 then (some (.ret,[.int .i64 (5:Int)],r10.2)) else (some (.normal,[],r10.2)) else none) else (x0.bind fun a11=>(Eo r4.2 a11.block (a11.off+0)).bind fun l12=>if 0≤(Ac (x1.tdiv (64:Int)))∧(Ac (x1.tdiv (64:Int)))<(l12.2.1:Nat) then l12.1.bind fun a13=>(Ai .i64 r4.2 a13.block (a13.off+(Ac (x1.tdiv (64:Int))).toNat*2+0)).bind fun n14=>(bif n14 != (2:Int) then some (true,r4.2) else if (64:Int)=0 then none else some ((x1.tmod (64:Int)) != (0:Int),r4.2)).bind fun r15=>(bif r15.1 then some (true,r15.2) else (Ol k x0 (Ac (x1.tdiv (64:Int))) r15.2).bind fun r16=>(BE .i64 r16.1).bind fun n17=>if (64:Int)=0 then none else some (n17 != (Ac ((Ac ((Ac (x2+(64:Int)))-(1:Int))).tdiv (64:Int))),r16.2)).bind fun r18=>bif r18.1 then (some (.ret,[.int .i64 (5:Int)],r18.2)) else (some (.normal,[],r18.2)) else none):Option Aw).bind fun r19=>if r19.1 = .normal then ((Iq k k x0 x1 x2 x3 x1 r19.2.2).bind fun r24=>if r24.1 = .exit 0 then (fI (0:Int) fun y25=>some (.int .i64 y25,r24.2.2)) else if r24.1 = .ret then (Sw r24.2.1 fun n26=>fI n26 fun y27=>some (.int .i64 y27,r24.2.2)) else none) else if r19.1 = .ret then (Sw r19.2.1 fun n28=>fI n28 fun y29=>some (.int .i64 y29,r19.2.2)) else none))
theorem Xb (k:Nat) (x0:Option Addr) (x1:Int) (x2:Int) (x3:Int) (σ:Aa):FN k x0 x1 x2 x3 σ=Ok k x0 x1 x2 x3 σ:=by
 cases k with
 | zero=>simp only[FN,Ab]; rfl
 | succ k=>rw[Po,NR,Ok]; simp only[QW,QV,U2,AW,AP,Ba,AY,AZ,Bc,Bb,AV,Be,Ao,Az,Bf,Ag,Ar,Aq,Ak]
noncomputable def Ry (k:Nat) (x0_0:Int) (x0_1:Int) (x0_2:Int) (σ:Aa):Option (Value × Aa):=match k with
 | 0=>none
 | k+1=>(fI x0_0 fun x0_0=>fI x0_1 fun x0_1=>fI x0_2 fun x0_2=>fL σ fun σ=>CA σ (.cells [.int .i64 x0_0,.int .i64 x0_1,.int .i64 x0_2] 33 true) fun h1 s2=>(Ai .i64 s2 h1 (0+0)).bind fun n3=>(Ai .i64 s2 h1 (0+1)).bind fun n4=>(Ai .i64 s2 h1 (0+2)).bind fun n5=>fI (Ac ((Ac (n3+(Ac ((16:Int)*n4))))+(Ac ((4096:Int)*n5)))) fun y6=>some (.int .i64 y6,s2))
theorem az (k:Nat) (x0_0:Int) (x0_1:Int) (x0_2:Int) (σ:Aa):HU k x0_0 x0_1 x0_2 σ=Ry k x0_0 x0_1 x0_2 σ:=by
 cases k with
 | zero=>simp only[HU,Ab]; rfl
 | succ k=>rw[RT,Rn,Ry]; simp only[AW,AP,Ba,AY,AZ,Bc,Bb,AV,Be,Ao,Az,Bf,Ag,Ar,Aq,Ak]
noncomputable def Jv (k:Nat) (x0:Option Addr) (x1:Int) (σ:Aa):Option (Value × Aa):=match k with
 | 0=>none
 | k+1=>(fP x0 fun x0=>fI x1 fun x1=>fL σ fun σ=>(Gu k x0 σ).bind fun r1=>(Ed r1.1).bind fun b2=>(bif b2 then some (decide (x1≥(0:Int)),r1.2) else some (false,r1.2)).bind fun r3=>(bif r3.1 then x0.bind fun a4=>(Ai .i64 r3.2 a4.block (a4.off+0)).bind fun n5=>some (decide (x1<n5),r3.2) else some (false,r3.2)).bind fun r6=>fB r6.1 fun y7=>some (.bool y7,r6.2))
theorem P0 (k:Nat) (x0:Option Addr) (x1:Int) (σ:Aa):Dx k x0 x1 σ=Jv k x0 x1 σ:=by
 cases k with
 | zero=>simp only[Dx,Ab]; rfl
 | succ k=>rw[NC,LV,Jv]; simp only[FX,AW,AP,Ba,AY,AZ,Bc,Bb,AV,Be,Ao,Az,Bf,Ag,Ar,Aq,Ak]
noncomputable def Mo (k:Nat) (x0:Option Addr) (x1:Int) (σ:Aa):Option (Value × Aa):=match k with
 | 0=>none
 | k+1=>(fP x0 fun x0=>fI x1 fun x1=>fL σ fun σ=>(bif decide (x1≥(0:Int)) then (HO k x0 σ).bind fun r1=>(BE .i64 r1.1).bind fun n2=>some (decide (x1≤n2),r1.2) else some (false,σ)).bind fun r3=>fB r3.1 fun y4=>some (.bool y4,r3.2))
theorem V1 (k:Nat) (x0:Option Addr) (x1:Int) (σ:Aa):EN k x0 x1 σ=Mo k x0 x1 σ:=by
 cases k with
 | zero=>simp only[EN,Ab]; rfl
 | succ k=>rw[ND,LW,Mo]; simp only[Mq,AW,AP,Ba,AY,AZ,Bc,Bb,AV,Be,Ao,Az,Bf,Ag,Ar,Aq,Ak]
noncomputable def JP (k:Nat) (x0:Int) (c0:Option Addr) (σ:Aa):Option (Value × Aa):=match k with
 | 0=>none
 | k+1=>(fI x0 fun x0=>fP c0 fun c0=>fL σ fun σ=>c0.bind fun a1=>(Jn σ a1.block a1.off).bind fun p2=>(Mo k p2 x0 σ).bind fun r3=>(Ed r3.1).bind fun b4=>fB (!b4) fun y5=>some (.bool y5,r3.2))
theorem Ti (k:Nat) (x0:Int) (c0:Option Addr) (σ:Aa):C0 k x0 c0 σ=JP k x0 c0 σ:=by
 cases k with
 | zero=>simp only[C0,Ab]; rfl
 | succ k=>rw[L7,JI,JP]; simp only[V1,AW,AP,Ba,AY,AZ,Bc,Bb,AV,Be,Ao,Az,Bf,Ag,Ar,Aq,Ak]
theorem St (k:Nat) (x0:Int) (c0:Option Addr) (σ:Aa):fn P (XK Kn.b) H k 179 [.int .i64 x0,.pointer c0] σ=C0 k x0 c0 σ:=by
 simp only[C0,Ab]
noncomputable def Rf (k:Nat) (n:FuncId) (l:List Value) (σ:Aa):Option (Value × Aa):=
 if n=179 then (match l with
  | [.int .i64 y1,.pointer y2]=>JP k y1 y2 σ
  | l=>fn P (XK Kn.b) H k 179 l σ) else
 fn P (XK Kn.b) H k n l σ
theorem dQ (k:Nat) (n:FuncId) (l:List Value) (σ:Aa):fn P (XK Kn.b) H k n l σ=Rf k n l σ:=by
 unfold Rf
 split
 ·rename_i hn; subst hn
  split
  ·exact (St k _ _ σ).trans (Ti k _ _ σ)
  ·rfl
 rfl
noncomputable def UL (k:Nat) (f:Value) (args:List Value) (σ:Aa):Option (Value × Aa):=match f with
 | .func (.func n) first cap=>Rf k n (first.toList++args++cap.toList) σ
 | .func (.method nm) first _=>(match first.toList++args with
   | .iface t v::rest=>(SS P t nm).bind fun n=>Rf k n (v::rest) σ
   | _=>none)
 | _=>none
theorem WR (k:Nat) (f:Value) (args:List Value) (σ:Aa):M0 k f args σ=UL k f args σ:=by
 simp only[M0,Ab]
 unfold Ow UL
 simp only[dQ]
 rfl
noncomputable def FJ (k n:Nat) (p0:Option Addr) (c1:Nat) (c2:Nat) (v3:Value) (i4:Int) (x8:Int) (σ:Aa):Option Aw:=match n with
 | 0=>none
 | n+1=>(fP p0 fun p0=>fN c1 fun c1=>fN c2 fun c2=>fI i4 fun i4=>fI x8 fun x8=>fL σ fun σ=>bif decide (x8<i4) then (if 0≤x8∧x8<(c1:Nat) then p0.bind fun a1=>(Ai .i64 σ a1.block (a1.off+x8.toNat*1)).bind fun n2=>(UL k v3 [.int .i64 n2] σ).bind fun r3=>(Ed r3.1).bind fun b4=>bif b4 then (some (.ret,[.int .i64 x8],r3.2)) else (FJ k n p0 c1 c2 v3 i4 (Ac (x8+(1:Int))) r3.2) else none) else (some (.exit 0,[],σ)))
termination_by structural n
theorem Q4 (k n:Nat) (p0:Option Addr) (c1:Nat) (c2:Nat) (v3:Value) (i4:Int) (x8:Int) (σ:Aa):C6 k n p0 c1 c2 v3 i4 x8 σ=FJ k n p0 c1 c2 v3 i4 x8 σ:=by
 induction n generalizing p0 c1 c2 v3 i4 x8 σ with
 | zero=>simp only[C6,Ab]; rfl
 | succ n ih=>rw[G5,FB,FJ]; simp only[WR,ih,AW,AP,Ba,AY,AZ,Bc,Bb,AV,Be,Ao,Az,Bf,Ag,Ar,Aq,Ak]
noncomputable def Jw (k:Nat) (x0:Option Addr × Nat × Nat) (x1:Value) (σ:Aa):Option (Value × Aa):=match k with
 | 0=>none
 | k+1=>(fS x0 fun x0=>fL σ fun σ=>(FJ k k x0.1 x0.2.1 x0.2.2 x1 ((x0.2.1:Nat):Int) (0:Int) σ).bind fun r5=>if r5.1 = .exit 0 then (fI (-1:Int) fun y6=>some (.int .i64 y6,r5.2.2)) else if r5.1 = .ret then (Sw r5.2.1 fun n7=>fI n7 fun y8=>some (.int .i64 y8,r5.2.2)) else none)
theorem Su (k:Nat) (x0:Option Addr × Nat × Nat) (x1:Value) (σ:Aa):Eu k x0 x1 σ=Jw k x0 x1 σ:=by
 cases k with
 | zero=>simp only[Eu,Ab]; rfl
 | succ k=>rw[La,Jd,Jw]; simp only[WR,Q4,AW,AP,Ba,AY,AZ,Bc,Bb,AV,Be,Ao,Az,Bf,Ag,Ar,Aq,Ak]
noncomputable def Ho (k:Nat) (x0:Option Addr × Nat × Nat) (x1:Value) (σ:Aa):Option (Value × Aa):=match k with
 | 0=>none
 | k+1=>(fS x0 fun x0=>fL σ fun σ=>(Jw k (x0.1,x0.2.1,x0.2.2) (x1) σ).bind fun r1=>(BE .i64 r1.1).bind fun n2=>fB (decide (n2≥(0:Int))) fun y3=>some (.bool y3,r1.2))
theorem Q3 (k:Nat) (x0:Option Addr × Nat × Nat) (x1:Value) (σ:Aa):Dq k x0 x1 σ=Ho k x0 x1 σ:=by
 cases k with
 | zero=>simp only[Dq,Ab]; rfl
 | succ k=>rw[Jz,Hn,Ho]; simp only[Su,AW,AP,Ba,AY,AZ,Bc,Bb,AV,Be,Ao,Az,Bf,Ag,Ar,Aq,Ak]
noncomputable def Mn (k:Nat) (x0:Option Addr) (x1:Int) (x2:Option Addr × Nat × Nat) (σ:Aa):Option (Value × Aa):=match k with
 | 0=>none
 | k+1=>(fP x0 fun x0=>fI x1 fun x1=>fS x2 fun x2=>fL σ fun σ=>CA σ (.cells [.pointer x0] 92 true) fun h1 s2=>(Jn s2 h1 0).bind fun p3=>(Gu k p3 s2).bind fun r4=>(Ed r4.1).bind fun b5=>bif !b5 then (fI (5:Int) fun y6=>some (.int .i64 y6,r4.2)) else ((Jn r4.2 h1 0).bind fun p7=>(Jv k p7 x1 r4.2).bind fun r8=>(Ed r8.1).bind fun b9=>(bif !b9 then some (true,r8.2) else (Ho k (x2.1,x2.2.1,x2.2.2) (.func (.func 179) #[] #[.pointer (some ⟨h1,0,none⟩)]) r8.2).bind fun r10=>(Ed r10.1).bind fun b11=>some (b11,r10.2)).bind fun r12=>bif r12.1 then (fI (1:Int) fun y13=>some (.int .i64 y13,r12.2)) else (fI (0:Int) fun y14=>some (.int .i64 y14,r12.2))))
theorem V0 (k:Nat) (x0:Option Addr) (x1:Int) (x2:Option Addr × Nat × Nat) (σ:Aa):EM k x0 x1 x2 σ=Mn k x0 x1 x2 σ:=by
 cases k with
 | zero=>simp only[EM,Ab]; rfl
 | succ k=>rw[NB,LU,Mn]; simp only[FX,P0,Q3,AW,AP,Ba,AY,AZ,Bc,Bb,AV,Be,Ao,Az,Bf,Ag,Ar,Aq,Ak]
noncomputable def Oo (k:Nat) (x0:Option Addr) (x1:Int) (x2:Int) (σ:Aa):Option (Value × Aa):=match k with
 | 0=>none
 | k+1=>(fP x0 fun x0=>fI x1 fun x1=>fI x2 fun x2=>fL σ fun σ=>x0.bind fun a1=>(Ai .i64 σ a1.block (a1.off+1)).bind fun n2=>x0.bind fun a3=>(Eo σ a3.block (a3.off+2)).bind fun l4=>if (64:Int)=0 then none else if 0≤(Ac ((Ac (x1*n2)).tdiv (64:Int)))∧(Ac ((Ac (x1*n2)).tdiv (64:Int)))<(l4.2.1:Nat) then l4.1.bind fun a5=>(Ai .u64 σ a5.block (a5.off+(Ac ((Ac (x1*n2)).tdiv (64:Int))).toNat*1)).bind fun n6=>(HO k x0 σ).bind fun r7=>(BE .i64 r7.1).bind fun n8=>if (64:Int)=0 then none else if ((Ac (x1*n2)).tmod (64:Int))<0 then none else if (64:Int)=0 then none else if ((Ac (x1*n2)).tmod (64:Int))<0 then none else V4 r7.2 a5.block (a5.off+(Ac ((Ac (x1*n2)).tdiv (64:Int))).toNat*1) (.int .u64 (u64 ((BitVec.ofInt 64 (u64 ((BitVec.ofInt 64 n6 &&& ~~~ (BitVec.ofInt 64 (u64 ((u64 (n8))*2 ^ (min ((Ac (x1*n2)).tmod (64:Int)).toNat 64))))).toNat)) ||| BitVec.ofInt 64 (u64 ((u64 (x2))*2 ^ (min ((Ac (x1*n2)).tmod (64:Int)).toNat 64)))).toNat))) fun s9=>some (.tuple #[],s9) else none)
theorem Xw (k:Nat) (x0:Option Addr) (x1:Int) (x2:Int) (σ:Aa):FT k x0 x1 x2 σ=Oo k x0 x1 x2 σ:=by
 cases k with
 | zero=>simp only[FT,Ab]; rfl
 | succ k=>rw[Px,Oa,Oo]; simp only[Mq,AW,AP,Ba,AY,AZ,Bc,Bb,AV,Be,Ao,Az,Bf,Ag,Ar,Aq,Ak]
noncomputable def IG (k:Nat) (x0:Option Addr) (x1:Int) (x2:Int) (σ:Aa):Option (Value × Aa):=match k with
 | 0=>none
 | k+1=>(fP x0 fun x0=>fI x1 fun x1=>fI x2 fun x2=>fL σ fun σ=>CA σ (.cells [.int .i64 x2] 3 true) fun h1 s2=>(Mn k x0 x1 (some ⟨h1,0,none⟩,1,1) s2).bind fun r3=>(BE .i64 r3.1).bind fun n4=>bif n4 != (0:Int) then (fI n4 fun y5=>some (.int .i64 y5,r3.2)) else ((Oo k x0 x1 x2 r3.2).bind fun r6=>TT r6.1 (fI (0:Int) fun y7=>some (.int .i64 y7,r6.2))))
theorem Rh (k:Nat) (x0:Option Addr) (x1:Int) (x2:Int) (σ:Aa):C9 k x0 x1 x2 σ=IG k x0 x1 x2 σ:=by
 cases k with
 | zero=>simp only[C9,Ab]; rfl
 | succ k=>rw[Pv,NY,IG]; simp only[V0,Xw,AW,AP,Ba,AY,AZ,Bc,Bb,AV,Be,Ao,Az,Bf,Ag,Ar,Aq,Ak]
noncomputable def JY (k:Nat) (x0:Option Addr) (x1:Int) (x2_0:Int) (x2_1:Int) (x2_2:Int) (σ:Aa):Option (Value × Aa):=match k with
 | 0=>none
 | k+1=>(fP x0 fun x0=>fI x1 fun x1=>fI x2_0 fun x2_0=>fI x2_1 fun x2_1=>fI x2_2 fun x2_2=>fL σ fun σ=>CA σ (.cells [.int .i64 x2_0,.int .i64 x2_1,.int .i64 x2_2] 33 true) fun h1 s2=>(DH k x0 s2).bind fun r3=>(Ed r3.1).bind fun b4=>bif !b4 then (fI (0:Int) fun y5=>fI (5:Int) fun y6=>some (.tuple #[.int .i64 y5,.int .i64 y6],r3.2)) else ((Ai .i64 r3.2 h1 0).bind fun n7=>(Ai .i64 r3.2 h1 (0+1)).bind fun n8=>(Ai .i64 r3.2 h1 (0+1+1)).bind fun n9=>(Nz k n7 n8 n9 r3.2).bind fun r10=>(Ed r10.1).bind fun b11=>bif !b11 then (fI (0:Int) fun y12=>fI (2:Int) fun y13=>some (.tuple #[.int .i64 y12,.int .i64 y13],r10.2)) else ((Ai .i64 r10.2 h1 0).bind fun n14=>(Ai .i64 r10.2 h1 (0+1)).bind fun n15=>(Ai .i64 r10.2 h1 (0+1+1)).bind fun n16=>(N0 k n14 n15 n16 r10.2).bind fun r17=>(BE .i64 r17.1).bind fun n18=>(Ok k x0 x1 n18 (-1:Int) r17.2).bind fun r19=>(BE .i64 r19.1).bind fun n20=>bif n20 != (0:Int) then (fI (0:Int) fun y21=>fI n20 fun y22=>some (.tuple #[.int .i64 y21,.int .i64 y22],r19.2)) else (x0.bind fun a23=>(Ai .i64 r19.2 a23.block (a23.off+6)).bind fun n24=>x0.bind fun a25=>V4 r19.2 a25.block (a25.off+6) (.int .i64 (Ac (n24+(1:Int)))) fun s26=>x0.bind fun a27=>(Eo s26 a27.block (a27.off+1)).bind fun l28=>x0.bind fun a29=>(Eo s26 a29.block (a29.off+1)).bind fun l30=>x0.bind fun a31=>(Ai .i64 s26 a31.block (a31.off+6)).bind fun n32=>(Ai .i64 s26 h1 0).bind fun n33=>(Ai .i64 s26 h1 (0+1)).bind fun n34=>(Ai .i64 s26 h1 (0+1+1)).bind fun n35=>(Ry k n33 n34 n35 s26).bind fun r36=>(BE .i64 r36.1).bind fun n37=>if 0≤x1∧x1<(l28.2.1:Nat) then l28.1.bind fun a38=>V4 r36.2 a38.block (a38.off+x1.toNat*1) (.int .i64 n32) fun s39=>if 0≤(Ac (x1+(1:Int)))∧(Ac (x1+(1:Int)))<(l30.2.1:Nat) then l30.1.bind fun a40=>V4 s39 a40.block (a40.off+(Ac (x1+(1:Int))).toNat*1) (.int .i64 n37) fun s41=>x0.bind fun a42=>(Jn s41 a42.block (a42.off+2)).bind fun p43=>if (2:Int)=0 then none else (IG k p43 (Ac (x1.tdiv (2:Int))) (1:Int) s41).bind fun r44=>(BE .i64 r44.1).bind fun n45=>x0.bind fun a46=>(oS r44.2 a46.block (a46.off+4)).bind fun m47=>x0.bind fun a48=>(Ai .i64 r44.2 a48.block (a48.off+6)).bind fun n49=>m47.bind fun h51=>(T1 r44.2 h51).bind fun es50=>nV r44.2 h51 (Oe n49 (.int .i64 x1) es50) fun s52=>x0.bind fun a53=>(Ai .i64 s52 a53.block (a53.off+6)).bind fun n54=>fI n54 fun y55=>fI (0:Int) fun y56=>some (.tuple #[.int .i64 y55,.int .i64 y56],s52) else none else none))))
theorem Qk (k:Nat) (x0:Option Addr) (x1:Int) (x2_0:Int) (x2_1:Int) (x2_2:Int) (σ:Aa):Co k x0 x1 x2_0 x2_1 x2_2 σ=JY k x0 x1 x2_0 x2_1 x2_2 σ:=by
 cases k with
 | zero=>simp only[Co,Ab]; rfl
 | succ k=>rw[OA,MO,JY]; simp only[Ru,Rs,DV,Xb,az,Rh,AW,AP,Ba,AY,AZ,Bc,Bb,AV,Be,Ao,Az,Bf,Ag,Ar,Aq,Ak]
noncomputable def Jt (k:Nat) (x0:Option Addr) (σ:Aa):Option (Value × Aa):=match k with
 | 0=>none
 | k+1=>(fP x0 fun x0=>fL σ fun σ=>(UT P 42 (.pointer x0) (.pointer none)).bind fun e1=>(bif !e1 then x0.bind fun a2=>(Jn σ a2.block (a2.off+0)).bind fun p3=>(UT P 25 (.pointer p3) (.pointer none)).bind fun e4=>some (!e4,σ) else some (false,σ)).bind fun r5=>fB r5.1 fun y6=>some (.bool y6,r5.2))
theorem RH (k:Nat) (x0:Option Addr) (σ:Aa):Ch k x0 σ=Jt k x0 σ:=by
 cases k with
 | zero=>simp only[Ch,Ab]; rfl
 | succ k=>rw[KX,Ja,Jt]; simp only[AW,AP,Ba,AY,AZ,Bc,Bb,AV,Be,Ao,Az,Bf,Ag,Ar,Aq,Ak]
noncomputable def KO (k:Nat)  (σ:Aa):Option (Value × Aa):=match k with
 | 0=>none
 | k+1=>(fL σ fun σ=>CA σ (.cells [.iface 150 (.agg #[]),.iface 151 (.agg #[]),.iface 152 (.agg #[]),.iface 153 (.agg #[]),.iface 154 (.agg #[])] 116 true) fun h1 s2=>some (.slice (some ⟨h1,0,none⟩) 5 5,s2))
theorem QJ (k:Nat)  (σ:Aa):DD k  σ=KO k  σ:=by
 cases k with
 | zero=>simp only[DD,Ab]; rfl
 | succ k=>rw[Pk,NO,KO]; simp only[AW,AP,Ba,AY,AZ,Bc,Bb,AV,Be,Ao,Az,Bf,Ag,Ar,Aq,Ak]
noncomputable def Tf (k:Nat) (x0:Int) (σ:Aa):Option (Value × Aa):=match k with
 | 0=>none
 | k+1=>(fI x0 fun x0=>fL σ fun σ=>(bif decide (x0≥(0:Int)) then some (decide (x0<(8:Int)),σ) else some (false,σ)).bind fun r1=>fB r1.1 fun y2=>some (.bool y2,r1.2))
theorem VH (k:Nat) (x0:Int) (σ:Aa):GB k x0 σ=Tf k x0 σ:=by
 cases k with
 | zero=>simp only[GB,Ab]; rfl
 | succ k=>rw[T0,SE,Tf]; simp only[AW,AP,Ba,AY,AZ,Bc,Bb,AV,Be,Ao,Az,Bf,Ag,Ar,Aq,Ak]
noncomputable def Kb (k:Nat) (x0:Option Addr) (x1:Int) (σ:Aa):Option (Value × Aa):=match k with
 | 0=>none
 | k+1=>(fP x0 fun x0=>fI x1 fun x1=>fL σ fun σ=>(DH k x0 σ).bind fun r1=>(Ed r1.1).bind fun b2=>(bif b2 then some (decide (x1≥(1:Int)),r1.2) else some (false,r1.2)).bind fun r3=>(bif r3.1 then x0.bind fun a4=>(Eo r3.2 a4.block (a4.off+0)).bind fun l5=>some (decide (x1<((l5.2.1:Nat):Int)),r3.2) else some (false,r3.2)).bind fun r6=>fB r6.1 fun y7=>some (.bool y7,r6.2))
theorem Md (k:Nat) (x0:Option Addr) (x1:Int) (σ:Aa):CG k x0 x1 σ=Kb k x0 x1 σ:=by
 cases k with
 | zero=>simp only[CG,Ab]; rfl
 | succ k=>rw[OD,MR,Kb]; simp only[DV,AW,AP,Ba,AY,AZ,Bc,Bb,AV,Be,Ao,Az,Bf,Ag,Ar,Aq,Ak]
noncomputable def KE (k:Nat) (x0_0:Int) (x0_1:Int) (σ:Aa):Option (Value × Aa):=match k with
 | 0=>none
 | k+1=>(fI x0_0 fun x0_0=>fI x0_1 fun x0_1=>fL σ fun σ=>CA σ (.cells [.int .i64 x0_0,.int .i64 x0_1] 104 true) fun h1 s2=>(Ai .i64 s2 h1 0).bind fun n3=>(Ai .i64 s2 h1 (0+1)).bind fun n4=>(UT P 104 (.agg #[.int .i64 n3,.int .i64 n4]) (.agg #[.int .i64 (0:Int),.int .i64 (0:Int)])).bind fun e5=>fB (!e5) fun y6=>some (.bool y6,s2))
theorem TN (k:Nat) (x0_0:Int) (x0_1:Int) (σ:Aa):CF k x0_0 x0_1 σ=KE k x0_0 x0_1 σ:=by
 cases k with
 | zero=>simp only[CF,Ab]; rfl
 | succ k=>rw[M4,Kj,KE]; simp only[AW,AP,Ba,AY,AZ,Bc,Bb,AV,Be,Ao,Az,Bf,Ag,Ar,Aq,Ak]
theorem SP (k:Nat) (x0_0:Int) (x0_1:Int) (σ:Aa):fn P (XK Kn.b) H k 166 [.agg #[.int .i64 x0_0,.int .i64 x0_1]] σ=CF k x0_0 x0_1 σ:=by
 simp only[CF,Ab]
noncomputable def P8 (k:Nat) (n:FuncId) (l:List Value) (σ:Aa):Option (Value × Aa):=
 if n=166 then (match l with
  | [.agg ⟨[.int .i64 y1,.int .i64 y2]⟩]=>KE k y1 y2 σ
  | l=>fn P (XK Kn.b) H k 166 l σ) else
 fn P (XK Kn.b) H k n l σ
theorem bY (k:Nat) (n:FuncId) (l:List Value) (σ:Aa):fn P (XK Kn.b) H k n l σ=P8 k n l σ:=by
 unfold P8
 split
 ·rename_i hn; subst hn
  split
  ·exact (SP k _ _ σ).trans (TN k _ _ σ)
  ·rfl
 rfl
noncomputable def Tc (k:Nat) (f:Value) (args:List Value) (σ:Aa):Option (Value × Aa):=match f with
 | .func (.func n) first cap=>P8 k n (first.toList++args++cap.toList) σ
 | .func (.method nm) first _=>(match first.toList++args with
   | .iface t v::rest=>(SS P t nm).bind fun n=>P8 k n (v::rest) σ
   | _=>none)
 | _=>none
theorem VF (k:Nat) (f:Value) (args:List Value) (σ:Aa):H7 k f args σ=Tc k f args σ:=by
 simp only[H7,Ab]
 unfold Ow Tc
 simp only[bY]
 rfl
noncomputable def DW (k n:Nat) (p0:Option Addr) (c1:Nat) (c2:Nat) (v3:Value) (i4:Int) (x8:Int) (σ:Aa):Option Aw:=match n with
 | 0=>none
 | n+1=>(fP p0 fun p0=>fN c1 fun c1=>fN c2 fun c2=>fI i4 fun i4=>fI x8 fun x8=>fL σ fun σ=>bif decide (x8<i4) then (if 0≤x8∧x8<(c1:Nat) then p0.bind fun a1=>(Ai .i64 σ a1.block (a1.off+x8.toNat*2)).bind fun n2=>(Ai .i64 σ a1.block (a1.off+x8.toNat*2+1)).bind fun n3=>(Tc k v3 [.agg #[.int .i64 n2,.int .i64 n3]] σ).bind fun r4=>(Ed r4.1).bind fun b5=>bif b5 then (some (.ret,[.int .i64 x8],r4.2)) else (DW k n p0 c1 c2 v3 i4 (Ac (x8+(1:Int))) r4.2) else none) else (some (.exit 0,[],σ)))
termination_by structural n
theorem MK (k n:Nat) (p0:Option Addr) (c1:Nat) (c2:Nat) (v3:Value) (i4:Int) (x8:Int) (σ:Aa):Bn k n p0 c1 c2 v3 i4 x8 σ=DW k n p0 c1 c2 v3 i4 x8 σ:=by
 induction n generalizing p0 c1 c2 v3 i4 x8 σ with
 | zero=>simp only[Bn,Ab]; rfl
 | succ n ih=>rw[EJ,DR,DW]; simp only[VF,ih,AW,AP,Ba,AY,AZ,Bc,Bb,AV,Be,Ao,Az,Bf,Ag,Ar,Aq,Ak]
noncomputable def Gn (k:Nat) (x0:Option Addr × Nat × Nat) (x1:Value) (σ:Aa):Option (Value × Aa):=match k with
 | 0=>none
 | k+1=>(fS x0 fun x0=>fL σ fun σ=>(DW k k x0.1 x0.2.1 x0.2.2 x1 ((x0.2.1:Nat):Int) (0:Int) σ).bind fun r6=>if r6.1 = .exit 0 then (fI (-1:Int) fun y7=>some (.int .i64 y7,r6.2.2)) else if r6.1 = .ret then (Sw r6.2.1 fun n8=>fI n8 fun y9=>some (.int .i64 y9,r6.2.2)) else none)
theorem Oq (k:Nat) (x0:Option Addr × Nat × Nat) (x1:Value) (σ:Aa):C3 k x0 x1 σ=Gn k x0 x1 σ:=by
 cases k with
 | zero=>simp only[C3,Ab]; rfl
 | succ k=>rw[HD,Gi,Gn]; simp only[VF,MK,AW,AP,Ba,AY,AZ,Bc,Bb,AV,Be,Ao,Az,Bf,Ag,Ar,Aq,Ak]
noncomputable def Fx (k:Nat) (x0:Option Addr × Nat × Nat) (x1:Value) (σ:Aa):Option (Value × Aa):=match k with
 | 0=>none
 | k+1=>(fS x0 fun x0=>fL σ fun σ=>(Gn k (x0.1,x0.2.1,x0.2.2) (x1) σ).bind fun r1=>(BE .i64 r1.1).bind fun n2=>fB (decide (n2≥(0:Int))) fun y3=>some (.bool y3,r1.2))
theorem Hk (k:Nat) (x0:Option Addr × Nat × Nat) (x1:Value) (σ:Aa):BW k x0 x1 σ=Fx k x0 x1 σ:=by
 cases k with
 | zero=>simp only[BW,Ab]; rfl
 | succ k=>rw[GL,Fl,Fx]; simp only[Oq,AW,AP,Ba,AY,AZ,Bc,Bb,AV,Be,Ao,Az,Bf,Ag,Ar,Aq,Ak]
noncomputable def HK (k n:Nat) (p0:Option Addr) (i1:Int) (h2:Nat) (i3:Int) (x54:Int) (σ:Aa):Option Aw:=match n with
 | 0=>none
 | n+1=>(fP p0 fun p0=>fI i1 fun i1=>fN h2 fun h2=>fI i3 fun i3=>fI x54 fun x54=>fL σ fun σ=>bif decide (x54<i3) then (p0.bind fun a25=>(Eo σ a25.block (a25.off+0)).bind fun l26=>(Ai .i64 σ h2 0).bind fun n27=>(Ai .i64 σ h2 (0+1)).bind fun n28=>if 0≤(Ac (i1+x54))∧(Ac (i1+x54))<(l26.2.1:Nat) then l26.1.bind fun a29=>To σ a29.block (a29.off+(Ac (i1+x54)).toNat*2) [.int .i64 n27,.int .i64 n28] fun s30=>HK k n p0 i1 h2 i3 (Ac (x54+(1:Int))) s30 else none) else (some (.exit 1,[],σ)))
termination_by structural n
theorem TO (k n:Nat) (p0:Option Addr) (i1:Int) (h2:Nat) (i3:Int) (x54:Int) (σ:Aa):Dj k n p0 i1 h2 i3 x54 σ=HK k n p0 i1 h2 i3 x54 σ:=by
 induction n generalizing p0 i1 h2 i3 x54 σ with
 | zero=>simp only[Dj,Ab]; rfl
 | succ n ih=>rw[I6,Hz,HK]; simp only[DV,VH,Md,Hk,ih,AW,AP,Ba,AY,AZ,Bc,Bb,AV,Be,Ao,Az,Bf,Ag,Ar,Aq,Ak]
noncomputable def Ka (k:Nat) (x0:Option Addr) (x1:Int) (x2:Int) (x3_0:Int) (x3_1:Int) (x4_0:Int) (x4_1:Int) (σ:Aa):Option (Value × Aa):=match k with
 | 0=>none
 | k+1=>(fP x0 fun x0=>fI x1 fun x1=>fI x2 fun x2=>fI x3_0 fun x3_0=>fI x3_1 fun x3_1=>fI x4_0 fun x4_0=>fI x4_1 fun x4_1=>fL σ fun σ=>CA σ (.cells [.int .i64 x3_0,.int .i64 x3_1] 104 true) fun h1 s2=>CA s2 (.cells [.int .i64 x4_0,.int .i64 x4_1] 104 true) fun h3 s4=>(DH k x0 s4).bind fun r5=>(Ed r5.1).bind fun b6=>bif !b6 then (fI (5:Int) fun y7=>some (.int .i64 y7,r5.2)) else ((Kb k x0 x1 r5.2).bind fun r8=>(Ed r8.1).bind fun b9=>(bif !b9 then some (true,r8.2) else some (decide (x2<(1:Int)),r8.2)).bind fun r10=>(bif r10.1 then some (true,r10.2) else x0.bind fun a11=>(Eo r10.2 a11.block (a11.off+0)).bind fun l12=>some (decide (x2>(Ac (((l12.2.1:Nat):Int)-x1))),r10.2)).bind fun r13=>(bif r13.1 then some (true,r13.2) else (Ai .i64 r13.2 h1 (0+1)).bind fun n14=>(Tf k n14 r13.2).bind fun r15=>(Ed r15.1).bind fun b16=>some (!b16,r15.2)).bind fun r17=>bif r17.1 then (fI (1:Int) fun y18=>some (.int .i64 y18,r17.2)) else (x0.bind fun a19=>(Eo r17.2 a19.block (a19.off+0)).bind fun l20=>(KF 104 2 (l20.1,l20.2.1,l20.2.2) (some (.int .i64 x1)) (some (.int .i64 (Ac (x1+x2)))) none r17.2).bind fun l21=>(Fx k (l21.1,l21.2.1,l21.2.2) (.func (.func 166) #[] #[]) r17.2).bind fun r22=>(Ed r22.1).bind fun b23=>bif b23 then (fI (8:Int) fun y24=>some (.int .i64 y24,r22.2)) else ((HK k k x0 x1 h3 x2 (0:Int) r22.2).bind fun r31=>if r31.1 = .exit 1 then (x0.bind fun a32=>(Eo r31.2.2 a32.block (a32.off+0)).bind fun l33=>(Ai .i64 r31.2.2 h1 0).bind fun n34=>(Ai .i64 r31.2.2 h1 (0+1)).bind fun n35=>if 0≤x1∧x1<(l33.2.1:Nat) then l33.1.bind fun a36=>To r31.2.2 a36.block (a36.off+x1.toNat*2) [.int .i64 n34,.int .i64 n35] fun s37=>fI (0:Int) fun y38=>some (.int .i64 y38,s37) else none) else none))))
theorem Qm (k:Nat) (x0:Option Addr) (x1:Int) (x2:Int) (x3_0:Int) (x3_1:Int) (x4_0:Int) (x4_1:Int) (σ:Aa):DU k x0 x1 x2 x3_0 x3_1 x4_0 x4_1 σ=Ka k x0 x1 x2 x3_0 x3_1 x4_0 x4_1 σ:=by
 cases k with
 | zero=>simp only[DU,Ab]; rfl
 | succ k=>rw[OC,MQ,Ka]; simp only[DV,VH,Md,Hk,TO,AW,AP,Ba,AY,AZ,Bc,Bb,AV,Be,Ao,Az,Bf,Ag,Ar,Aq,Ak]
noncomputable def Ju (k:Nat) (x0:Option Addr) (x1:Int) (x2:Int) (x3:Int) (σ:Aa):Option (Value × Aa):=match k with
 | 0=>none
 | k+1=>(fP x0 fun x0=>fI x1 fun x1=>fI x2 fun x2=>fI x3 fun x3=>fL σ fun σ=>(Ka k x0 x1 x2 (2:Int) x3 (3:Int) x3 σ).bind fun r1=>(BE .i64 r1.1).bind fun n2=>fI n2 fun y3=>some (.int .i64 y3,r1.2))
theorem MA (k:Nat) (x0:Option Addr) (x1:Int) (x2:Int) (x3:Int) (σ:Aa):Du k x0 x1 x2 x3 σ=Ju k x0 x1 x2 x3 σ:=by
 cases k with
 | zero=>simp only[Du,Ab]; rfl
 | succ k=>rw[KY,Jb,Ju]; simp only[Qm,AW,AP,Ba,AY,AZ,Bc,Bb,AV,Be,Ao,Az,Bf,Ag,Ar,Aq,Ak]
noncomputable def Fw (k n:Nat) (p0:Option Addr) (i1:Int) (x7:Int) (σ:Aa):Option Aw:=match n with
 | 0=>none
 | n+1=>(fP p0 fun p0=>fI i1 fun i1=>fI x7 fun x7=>fL σ fun σ=>p0.bind fun a1=>(Jn σ a1.block (a1.off+0)).bind fun p2=>(Em k p2 σ).bind fun r3=>(BE .i64 r3.1).bind fun n4=>bif decide ((Ac (x7+i1))≤n4) then (p0.bind fun a5=>(Jn r3.2 a5.block (a5.off+0)).bind fun p6=>p0.bind fun a7=>(Ai .i64 r3.2 a7.block (a7.off+1)).bind fun n8=>(Ju k p6 x7 i1 n8 r3.2).bind fun r9=>(BE .i64 r9.1).bind fun n10=>bif n10 == (0:Int) then (some (.ret,[.int .i64 (Ac (x7*(64:Int))),.bool true],r9.2)) else (Fw k n p0 i1 (Ac (x7+(1:Int))) r9.2)) else (some (.exit 0,[],r3.2)))
termination_by structural n
theorem P5 (k n:Nat) (p0:Option Addr) (i1:Int) (x7:Int) (σ:Aa):BO k n p0 i1 x7 σ=Fw k n p0 i1 x7 σ:=by
 induction n generalizing p0 i1 x7 σ with
 | zero=>simp only[BO,Ab]; rfl
 | succ n ih=>rw[IQ,GR,Fw]; simp only[CW,MA,ih,AW,AP,Ba,AY,AZ,Bc,Bb,AV,Be,Ao,Az,Bf,Ag,Ar,Aq,Ak]
noncomputable def IF (k:Nat) (x0:Option Addr) (x1:Int) (σ:Aa):Option (Value × Aa):=match k with
 | 0=>none
 | k+1=>(fP x0 fun x0=>fI x1 fun x1=>fL σ fun σ=>if (64:Int)=0 then none else (Fw k k x0 (Ac ((Ac ((Ac (x1+(64:Int)))-(1:Int))).tdiv (64:Int))) (1:Int) σ).bind fun r11=>if r11.1 = .exit 0 then (fI (0:Int) fun y12=>fB false fun y13=>some (.tuple #[.int .i64 y12,.bool y13],r11.2.2)) else if r11.1 = .ret then (cl r11.2.1 fun n14 b15=>fI n14 fun y16=>fB b15 fun y17=>some (.tuple #[.int .i64 y16,.bool y17],r11.2.2)) else none)
theorem Rm (k:Nat) (x0:Option Addr) (x1:Int) (σ:Aa):BR k x0 x1 σ=IF k x0 x1 σ:=by
 cases k with
 | zero=>simp only[BR,Ab]; rfl
 | succ k=>rw[Kt,Iw,IF]; simp only[CW,MA,P5,AW,AP,Ba,AY,AZ,Bc,Bb,AV,Be,Ao,Az,Bf,Ag,Ar,Aq,Ak]
theorem Q7 (k:Nat) (x0:Option Addr) (x1:Int) (σ:Aa):fn P (XK Kn.b) H k 99 [.pointer x0,.int .i64 x1] σ=BR k x0 x1 σ:=by
 simp only[BR,Ab]
noncomputable def JX (k:Nat) (x0:Option Addr) (x1:Int) (x2:Int) (σ:Aa):Option (Value × Aa):=match k with
 | 0=>none
 | k+1=>(fP x0 fun x0=>fI x1 fun x1=>fI x2 fun x2=>fL σ fun σ=>(Ka k x0 x1 (1:Int) (1:Int) x2 (0:Int) (0:Int) σ).bind fun r1=>(BE .i64 r1.1).bind fun n2=>fI n2 fun y3=>some (.int .i64 y3,r1.2))
theorem Mb (k:Nat) (x0:Option Addr) (x1:Int) (x2:Int) (σ:Aa):Cn k x0 x1 x2 σ=JX k x0 x1 x2 σ:=by
 cases k with
 | zero=>simp only[Cn,Ab]; rfl
 | succ k=>rw[O9,MN,JX]; simp only[Qm,AW,AP,Ba,AY,AZ,Bc,Bb,AV,Be,Ao,Az,Bf,Ag,Ar,Aq,Ak]
noncomputable def Fv (k n:Nat) (p0:Option Addr) (h1:Nat) (x4:Int) (σ:Aa):Option Aw:=match n with
 | 0=>none
 | n+1=>(fP p0 fun p0=>fN h1 fun h1=>fI x4 fun x4=>fL σ fun σ=>p0.bind fun a3=>(Jn σ a3.block (a3.off+0)).bind fun p4=>(Em k p4 σ).bind fun r5=>(BE .i64 r5.1).bind fun n6=>bif decide (x4<n6) then (p0.bind fun a7=>(Jn r5.2 a7.block (a7.off+0)).bind fun p8=>p0.bind fun a9=>(Ai .i64 r5.2 a9.block (a9.off+1)).bind fun n10=>(JX k p8 x4 n10 r5.2).bind fun r11=>(BE .i64 r11.1).bind fun n12=>bif n12 == (0:Int) then (To r11.2 h1 0 [.int .i64 (Ac (x4*(64:Int))),.int .i64 (Ac ((Ac (x4+(1:Int)))*(64:Int)))] fun s13=>some (.ret,[.bool true],s13)) else (Fv k n p0 h1 (Ac (x4+(1:Int))) r11.2)) else (some (.exit 0,[],r5.2)))
termination_by structural n
theorem P4 (k n:Nat) (p0:Option Addr) (h1:Nat) (x4:Int) (σ:Aa):BN k n p0 h1 x4 σ=Fv k n p0 h1 x4 σ:=by
 induction n generalizing p0 h1 x4 σ with
 | zero=>simp only[BN,Ab]; rfl
 | succ n ih=>rw[Gj,Fj,Fv]; simp only[CW,Mb,ih,AW,AP,Ba,AY,AZ,Bc,Bb,AV,Be,Ao,Az,Bf,Ag,Ar,Aq,Ak]
noncomputable def EX (k:Nat) (x0:Option Addr) (σ:Aa):Option (Value × Aa):=match k with
 | 0=>none
 | k+1=>(fP x0 fun x0=>fL σ fun σ=>CA σ (.cells [.int .i64 (0:Int),.int .i64 (0:Int)] 120 true) fun h1 s2=>(Fv k k x0 h1 (1:Int) s2).bind fun r14=>if r14.1 = .exit 0 then (To r14.2.2 h1 0 [.int .i64 (0:Int),.int .i64 (0:Int)] fun s15=>(((VI s15 h1 0 2).bind fun v16=>some (.agg v16.toArray)).bind fun v17=>some [v17,.bool false]).bind fun vs18=>some (Qw vs18,s15)) else if r14.1 = .ret then (mg r14.2.1 fun b19=>(((VI r14.2.2 h1 0 2).bind fun v20=>some (.agg v20.toArray)).bind fun v21=>some [v21,.bool b19]).bind fun vs22=>some (Qw vs22,r14.2.2)) else none)
theorem DB (k:Nat) (x0:Option Addr) (σ:Aa):Bq k x0 σ=EX k x0 σ:=by
 cases k with
 | zero=>simp only[Bq,Ab]; rfl
 | succ k=>rw[Ks,Iv,EX]; simp only[CW,Mb,P4,AW,AP,Ba,AY,AZ,Bc,Bb,AV,Be,Ao,Az,Bf,Ag,Ar,Aq,Ak]
noncomputable def EY (k:Nat) (x0:Option Addr) (x1:Option Addr × Nat × Nat) (σ:Aa):Option (Value × Aa):=match k with
 | 0=>none
 | k+1=>(fP x0 fun x0=>fS x1 fun x1=>fL σ fun σ=>bif decide (((x1.2.1:Nat):Int)>(0:Int)) then (if 0≤(0:Int)∧(0:Int)<(x1.2.1:Nat) then x1.1.bind fun a1=>(Ai .i64 σ a1.block (a1.off+(0:Int).toNat*2+0)).bind fun n2=>fI n2 fun y3=>fB true fun y4=>some (.tuple #[.int .i64 y3,.bool y4],σ) else none) else ((EX k x0 σ).bind fun r5=>(Z9 r5.1).bind fun q6=>if q6.length=2 then q6.head?.bind fun v7=>bU v7 fun n8 n9=>q6.tail.head?.bind fun v10=>(Ed v10).bind fun b11=>CA r5.2 (.cells [.int .i64 (0:Int),.int .i64 (0:Int)] 120 true) fun h12 s13=>To s13 h12 0 [.int .i64 n8,.int .i64 n9] fun s14=>(Ai .i64 s14 h12 (0+0)).bind fun n15=>fI n15 fun y16=>fB b11 fun y17=>some (.tuple #[.int .i64 y16,.bool y17],s14) else none))
theorem HR (k:Nat) (x0:Option Addr) (x1:Option Addr × Nat × Nat) (σ:Aa):AO k x0 x1 σ=EY k x0 x1 σ:=by
 cases k with
 | zero=>simp only[AO,Ab]; rfl
 | succ k=>rw[Ku,Ix,EY]; simp only[DB,AW,AP,Ba,AY,AZ,Bc,Bb,AV,Be,Ao,Az,Bf,Ag,Ar,Aq,Ak]
noncomputable def HN (k n:Nat) (p0:Option Addr) (i1:Int) (x8:Int) (σ:Aa):Option Aw:=match n with
 | 0=>none
 | n+1=>(fP p0 fun p0=>fI i1 fun i1=>fI x8 fun x8=>fL σ fun σ=>p0.bind fun a5=>(Ai .i64 σ a5.block (a5.off+0)).bind fun n6=>bif decide (x8<n6) then ((IH k p0 x8 σ).bind fun r7=>(BE .i64 r7.1).bind fun n8=>bif n8 == i1 then (some (.ret,[.int .i64 x8,.int .i64 (0:Int)],r7.2)) else (HN k n p0 i1 (Ac (x8+(1:Int))) r7.2)) else (some (.exit 0,[],σ)))
termination_by structural n
theorem TR (k n:Nat) (p0:Option Addr) (i1:Int) (x8:Int) (σ:Aa):Dn k n p0 i1 x8 σ=HN k n p0 i1 x8 σ:=by
 induction n generalizing p0 i1 x8 σ with
 | zero=>simp only[Dn,Ab]; rfl
 | succ n ih=>rw[M8,Ko,HN]; simp only[FX,HP,ih,AW,AP,Ba,AY,AZ,Bc,Bb,AV,Be,Ao,Az,Bf,Ag,Ar,Aq,Ak]
noncomputable def Kc (k:Nat) (x0:Option Addr) (x1:Int) (x2:Int) (σ:Aa):Option (Value × Aa):=match k with
 | 0=>none
 | k+1=>(fP x0 fun x0=>fI x1 fun x1=>fI x2 fun x2=>fL σ fun σ=>(Gu k x0 σ).bind fun r1=>(Ed r1.1).bind fun b2=>bif !b2 then (fI (0:Int) fun y3=>fI (5:Int) fun y4=>some (.tuple #[.int .i64 y3,.int .i64 y4],r1.2)) else ((HN k k x0 x2 (if (0:Int)>x1 then (0:Int) else x1) r1.2).bind fun r9=>if r9.1 = .exit 0 then (fI (0:Int) fun y10=>fI (4:Int) fun y11=>some (.tuple #[.int .i64 y10,.int .i64 y11],r9.2.2)) else if r9.1 = .ret then (Sx r9.2.1 fun n12 n13=>fI n12 fun y14=>fI n13 fun y15=>some (.tuple #[.int .i64 y14,.int .i64 y15],r9.2.2)) else none))
theorem Q2 (k:Nat) (x0:Option Addr) (x1:Int) (x2:Int) (σ:Aa):CI k x0 x1 x2 σ=Kc k x0 x1 x2 σ:=by
 cases k with
 | zero=>simp only[CI,Ab]; rfl
 | succ k=>rw[OI,MX,Kc]; simp only[FX,HP,TR,AW,AP,Ba,AY,AZ,Bc,Bb,AV,Be,Ao,Az,Bf,Ag,Ar,Aq,Ak]
noncomputable def GD (k n:Nat) (p0:Option Addr) (i1:Int) (x7:Option Addr × Nat × Nat) (x8:Int) (x9:Int) (σ:Aa):Option Aw:=match n with
 | 0=>none
 | n+1=>(fP p0 fun p0=>fI i1 fun i1=>fS x7 fun x7=>fI x8 fun x8=>fI x9 fun x9=>fL σ fun σ=>(bif x9 == (0:Int) then some (decide ((Ac ((2:Int)*x8))<i1),σ) else some (false,σ)).bind fun r6=>bif r6.1 then (CA r6.2 (.cells [.int .i64 (Ac ((2:Int)*x8))] 3 true) fun h7 s8=>(Bs P 3 (x7.1,x7.2.1,x7.2.2) (some ⟨h7,0,none⟩,1,1) s8).bind fun r9=>fR r9 fun r9=>p0.bind fun a10=>(Jn r9.2 a10.block (a10.off+2)).bind fun p11=>(Kc k p11 (Ac (x8+(1:Int))) (1:Int) r9.2).bind fun r12=>Gp r12.1 fun n13 n14=>GD k n p0 i1 (r9.1.1,r9.1.2.1,r9.1.2.2) n13 n14 r12.2) else (some (.exit 0,[.slice x7.1 x7.2.1 x7.2.2],r6.2)))
termination_by structural n
theorem Sc (k n:Nat) (p0:Option Addr) (i1:Int) (x7:Option Addr × Nat × Nat) (x8:Int) (x9:Int) (σ:Aa):BJ k n p0 i1 x7 x8 x9 σ=GD k n p0 i1 x7 x8 x9 σ:=by
 induction n generalizing p0 i1 x7 x8 x9 σ with
 | zero=>simp only[BJ,Ab]; rfl
 | succ n ih=>rw[FC,Fk,GD]; simp only[Q2,ih,AW,AP,Ba,AY,AZ,Bc,Bb,AV,Be,Ao,Az,Bf,Ag,Ar,Aq,Ak]
noncomputable def Lr (k:Nat) (x0:Option Addr) (x1:Int) (x2:Int) (σ:Aa):Option (Value × Aa):=match k with
 | 0=>none
 | k+1=>(fP x0 fun x0=>fI x1 fun x1=>fI x2 fun x2=>fL σ fun σ=>x0.bind fun a1=>(Jn σ a1.block (a1.off+2)).bind fun p2=>if (2:Int)=0 then none else (Kc k p2 (Ac (x1.tdiv (2:Int))) (1:Int) σ).bind fun r3=>Gp r3.1 fun n4 n5=>(GD k k x0 x2 (none,0,0) n4 n5 r3.2).bind fun r15=>if r15.1 = .exit 0 then (Zc r15.2.1 fun l16=>some (.slice l16.1 l16.2.1 l16.2.2,r15.2.2)) else none)
theorem U1 (k:Nat) (x0:Option Addr) (x1:Int) (x2:Int) (σ:Aa):E4 k x0 x1 x2 σ=Lr k x0 x1 x2 σ:=by
 cases k with
 | zero=>simp only[E4,Ab]; rfl
 | succ k=>rw[Ng,Lh,Lr]; simp only[Q2,Sc,AW,AP,Ba,AY,AZ,Bc,Bb,AV,Be,Ao,Az,Bf,Ag,Ar,Aq,Ak]
noncomputable def Ip (k:Nat) (x0:Option Addr) (x1:Int) (σ:Aa):Option (Value × Aa):=match k with
 | 0=>none
 | k+1=>(fP x0 fun x0=>fI x1 fun x1=>fL σ fun σ=>(DH k x0 σ).bind fun r1=>(Ed r1.1).bind fun b2=>(bif !b2 then some (true,r1.2) else some (decide (x1<(0:Int)),r1.2)).bind fun r3=>(bif r3.1 then some (true,r3.2) else x0.bind fun a4=>(Eo r3.2 a4.block (a4.off+0)).bind fun l5=>some (decide (x1≥((l5.2.1:Nat):Int)),r3.2)).bind fun r6=>bif r6.1 then (some (.slice none 0 0,r6.2)) else ((Lr k x0 (Ac (x1*(64:Int))) (Ac ((Ac (x1+(1:Int)))*(64:Int))) r6.2).bind fun r7=>(Hu r7.1).bind fun l8=>some (.slice l8.1 l8.2.1 l8.2.2,r7.2)))
theorem Gm (k:Nat) (x0:Option Addr) (x1:Int) (σ:Aa):Ce k x0 x1 σ=Ip k x0 x1 σ:=by
 cases k with
 | zero=>simp only[Ce,Ab]; rfl
 | succ k=>rw[Nf,Lg,Ip]; simp only[DV,U1,AW,AP,Ba,AY,AZ,Bc,Bb,AV,Be,Ao,Az,Bf,Ag,Ar,Aq,Ak]
noncomputable def KP (k:Nat) (x0:Option Addr) (x1:Int) (σ:Aa):Option (Value × Aa):=match k with
 | 0=>none
 | k+1=>(fP x0 fun x0=>fI x1 fun x1=>fL σ fun σ=>(Kb k x0 x1 σ).bind fun r1=>(Ed r1.1).bind fun b2=>(bif b2 then x0.bind fun a3=>(Eo r1.2 a3.block (a3.off+0)).bind fun l4=>if 0≤x1∧x1<(l4.2.1:Nat) then l4.1.bind fun a5=>(Ai .i64 r1.2 a5.block (a5.off+x1.toNat*2+0)).bind fun n6=>some (n6 == (1:Int),r1.2) else none else some (false,r1.2)).bind fun r7=>fB r7.1 fun y8=>some (.bool y8,r7.2))
theorem HE (k:Nat) (x0:Option Addr) (x1:Int) (σ:Aa):BU k x0 x1 σ=KP k x0 x1 σ:=by
 cases k with
 | zero=>simp only[BU,Ab]; rfl
 | succ k=>rw[Lk,KH,KP]; simp only[Md,AW,AP,Ba,AY,AZ,Bc,Bb,AV,Be,Ao,Az,Bf,Ag,Ar,Aq,Ak]
noncomputable def Im (k:Nat) (x0:Int) (c0:Option Addr) (c1:Option Addr) (σ:Aa):Option (Value × Aa):=match k with
 | 0=>none
 | k+1=>(fI x0 fun x0=>fP c0 fun c0=>fP c1 fun c1=>fL σ fun σ=>c0.bind fun a1=>(Ai .i64 σ a1.block a1.off).bind fun n2=>(bif decide (x0>n2) then (c1.bind fun a3=>(Eo σ a3.block a3.off).bind fun l4=>c0.bind fun a5=>(Ai .i64 σ a5.block a5.off).bind fun n6=>c0.bind fun a7=>(Ai .i64 σ a7.block a7.off).bind fun n8=>CA σ (.cells [.int .i64 n6,.int .i64 (Ac (x0-n8))] 51 true) fun h9 s10=>(Bs P 51 (l4.1,l4.2.1,l4.2.2) (some ⟨h9,0,none⟩,1,1) s10).bind fun r11=>fR r11 fun r11=>c1.bind fun a12=>V4 r11.2 a12.block a12.off (.slice r11.1.1 r11.1.2.1 r11.1.2.2) fun s13=>some (.normal,[],s13)) else (some (.normal,[],σ)):Option Aw).bind fun r14=>if r14.1 = .normal then (some (.tuple #[],r14.2.2)) else none)
theorem OL (k:Nat) (x0:Int) (c0:Option Addr) (c1:Option Addr) (σ:Aa):C4 k x0 c0 c1 σ=Im k x0 c0 c1 σ:=by
 cases k with
 | zero=>simp only[C4,Ab]; rfl
 | succ k=>rw[Je,Ie,Im]; simp only[AW,AP,Ba,AY,AZ,Bc,Bb,AV,Be,Ao,Az,Bf,Ag,Ar,Aq,Ak]
noncomputable def Io (k n:Nat) (p0:Option Addr) (h1:Nat) (h2:Nat) (p3:Option Addr) (c4:Nat) (c5:Nat) (i6:Int) (x21:Int) (σ:Aa):Option Aw:=match n with
 | 0=>none
 | n+1=>(fP p0 fun p0=>fN h1 fun h1=>fN h2 fun h2=>fP p3 fun p3=>fN c4 fun c4=>fN c5 fun c5=>fI i6 fun i6=>fI x21 fun x21=>fL σ fun σ=>bif decide (x21<i6) then (if 0≤x21∧x21<(c4:Nat) then p3.bind fun a10=>(Ai .i64 σ a10.block (a10.off+x21.toNat*1)).bind fun n11=>(Im k n11 (some ⟨h1,0,none⟩) (some ⟨h2,0,none⟩) σ).bind fun r12=>TT r12.1 ((GO k p0 n11 r12.2).bind fun r13=>(BE .i64 r13.1).bind fun n14=>V4 r13.2 h1 0 (.int .i64 (Ac (n11+n14))) fun s15=>Io k n p0 h1 h2 p3 c4 c5 i6 (Ac (x21+(1:Int))) s15) else none) else (some (.exit 0,[],σ)))
termination_by structural n
theorem U0 (k n:Nat) (p0:Option Addr) (h1:Nat) (h2:Nat) (p3:Option Addr) (c4:Nat) (c5:Nat) (i6:Int) (x21:Int) (σ:Aa):CU k n p0 h1 h2 p3 c4 c5 i6 x21 σ=Io k n p0 h1 h2 p3 c4 c5 i6 x21 σ:=by
 induction n generalizing p0 h1 h2 p3 c4 c5 i6 x21 σ with
 | zero=>simp only[CU,Ab]; rfl
 | succ n ih=>rw[Jf,Ig,Io]; simp only[Gm,HE,Ft,OL,ih,AW,AP,Ba,AY,AZ,Bc,Bb,AV,Be,Ao,Az,Bf,Ag,Ar,Aq,Ak]
noncomputable def Oi (k:Nat) (x0:Option Addr) (x1:Int) (σ:Aa):Option (Value × Aa):=match k with
 | 0=>none
 | k+1=>(fP x0 fun x0=>fI x1 fun x1=>fL σ fun σ=>(KP k x0 x1 σ).bind fun r1=>(Ed r1.1).bind fun b2=>bif !b2 then (some (.slice none 0 0,r1.2)) else (CA r1.2 (.cells [.slice none 0 0] 46 true) fun h3 s4=>CA s4 (.cells [.int .i64 (0:Int)] 3 true) fun h5 s6=>V4 s6 h5 0 (.int .i64 (Ac (x1*(64:Int)))) fun s7=>(Ip k x0 x1 s7).bind fun r8=>(Hu r8.1).bind fun l9=>(Io k k x0 h5 h3 l9.1 l9.2.1 l9.2.2 ((l9.2.1:Nat):Int) (0:Int) r8.2).bind fun r16=>if r16.1 = .exit 0 then ((Im k (Ac ((Ac (x1+(1:Int)))*(64:Int))) (some ⟨h5,0,none⟩) (some ⟨h3,0,none⟩) r16.2.2).bind fun r17=>TT r17.1 ((Eo r17.2 h3 0).bind fun l18=>some (.slice l18.1 l18.2.1 l18.2.2,r17.2))) else none))
theorem Nq (k:Nat) (x0:Option Addr) (x1:Int) (σ:Aa):DE k x0 x1 σ=Oi k x0 x1 σ:=by
 cases k with
 | zero=>simp only[DE,Ab]; rfl
 | succ k=>rw[Ik,Iy,Oi]; simp only[Gm,HE,Ft,OL,U0,AW,AP,Ba,AY,AZ,Bc,Bb,AV,Be,Ao,Az,Bf,Ag,Ar,Aq,Ak]
noncomputable def Ny (k:Nat) (x0:Option Addr) (x1:Int) (σ:Aa):Option (Value × Aa):=match k with
 | 0=>none
 | k+1=>(fP x0 fun x0=>fI x1 fun x1=>fL σ fun σ=>(bif decide (x1<(0:Int)) then some (true,σ) else (Em k x0 σ).bind fun r1=>(BE .i64 r1.1).bind fun n2=>some (decide (x1≥n2),r1.2)).bind fun r3=>bif r3.1 then (fI (-1:Int) fun y4=>some (.int .i64 y4,r3.2)) else (x0.bind fun a5=>(Eo r3.2 a5.block (a5.off+0)).bind fun l6=>if 0≤x1∧x1<(l6.2.1:Nat) then l6.1.bind fun a7=>(Ai .i64 r3.2 a7.block (a7.off+x1.toNat*2+0)).bind fun n8=>fI n8 fun y9=>some (.int .i64 y9,r3.2) else none))
theorem Ql (k:Nat) (x0:Option Addr) (x1:Int) (σ:Aa):CE k x0 x1 σ=Ny k x0 x1 σ:=by
 cases k with
 | zero=>simp only[CE,Ab]; rfl
 | succ k=>rw[OB,MP,Ny]; simp only[CW,AW,AP,Ba,AY,AZ,Bc,Bb,AV,Be,Ao,Az,Bf,Ag,Ar,Aq,Ak]
noncomputable def Fa (k n:Nat) (p0:Option Addr) (i1:Int) (x3:Option Addr × Nat × Nat) (x10:Int) (σ:Aa):Option Aw:=match n with
 | 0=>none
 | n+1=>(fP p0 fun p0=>fI i1 fun i1=>fS x3 fun x3=>fI x10 fun x10=>fL σ fun σ=>bif decide (x10<i1) then (p0.bind fun a5=>(Jn σ a5.block (a5.off+0)).bind fun p6=>(Ny k p6 x10 σ).bind fun r7=>(BE .i64 r7.1).bind fun n8=>(bif n8 == (1:Int) then p0.bind fun a9=>(Jn r7.2 a9.block (a9.off+0)).bind fun p10=>(JZ k p10 x10 r7.2).bind fun r11=>(BE .i64 r11.1).bind fun n12=>p0.bind fun a13=>(Ai .i64 r11.2 a13.block (a13.off+1)).bind fun n14=>some (n12 == n14,r11.2) else some (false,r7.2)).bind fun r15=>(bif r15.1 then (CA r15.2 (.cells [.int .i64 x10] 3 true) fun h16 s17=>(Bs P 3 (x3.1,x3.2.1,x3.2.2) (some ⟨h16,0,none⟩,1,1) s17).bind fun r18=>fR r18 fun r18=>some (.normal,[.slice r18.1.1 r18.1.2.1 r18.1.2.2],r18.2)) else (some (.normal,[.slice x3.1 x3.2.1 x3.2.2],r15.2)):Option Aw).bind fun r19=>if r19.1 = .normal then (Zc r19.2.1 fun l20=>Fa k n p0 i1 (l20.1,l20.2.1,l20.2.2) (Ac (x10+(1:Int))) r19.2.2) else none) else (some (.exit 0,[.slice x3.1 x3.2.1 x3.2.2],σ)))
termination_by structural n
theorem OY (k n:Nat) (p0:Option Addr) (i1:Int) (x3:Option Addr × Nat × Nat) (x10:Int) (σ:Aa):Bt k n p0 i1 x3 x10 σ=Fa k n p0 i1 x3 x10 σ:=by
 induction n generalizing p0 i1 x3 x10 σ with
 | zero=>simp only[Bt,Ab]; rfl
 | succ n ih=>rw[FL,EZ,Fa]; simp only[CW,Ql,Mc,ih,AW,AP,Ba,AY,AZ,Bc,Bb,AV,Be,Ao,Az,Bf,Ag,Ar,Aq,Ak]
noncomputable def Gg (k:Nat) (x0:Option Addr) (σ:Aa):Option (Value × Aa):=match k with
 | 0=>none
 | k+1=>(fP x0 fun x0=>fL σ fun σ=>x0.bind fun a1=>(Jn σ a1.block (a1.off+0)).bind fun p2=>(Em k p2 σ).bind fun r3=>(BE .i64 r3.1).bind fun n4=>(Fa k k x0 n4 (none,0,0) (0:Int) r3.2).bind fun r21=>if r21.1 = .exit 0 then (Zc r21.2.1 fun l22=>some (.slice l22.1 l22.2.1 l22.2.2,r21.2.2)) else none)
theorem C5 (k:Nat) (x0:Option Addr) (σ:Aa):Bo k x0 σ=Gg k x0 σ:=by
 cases k with
 | zero=>simp only[Bo,Ab]; rfl
 | succ k=>rw[JT,HS,Gg]; simp only[CW,Ql,Mc,OY,AW,AP,Ba,AY,AZ,Bc,Bb,AV,Be,Ao,Az,Bf,Ag,Ar,Aq,Ak]
noncomputable def FF (k n:Nat) (i0:Int) (i1:Int) (p2:Option Addr) (c3:Nat) (c4:Nat) (i5:Int) (x7:Option Addr × Nat × Nat) (x27:Int) (σ:Aa):Option Aw:=match n with
 | 0=>none
 | n+1=>(fI i0 fun i0=>fI i1 fun i1=>fP p2 fun p2=>fN c3 fun c3=>fN c4 fun c4=>fI i5 fun i5=>fS x7 fun x7=>fI x27 fun x27=>fL σ fun σ=>bif decide (x27<i5) then (if 0≤x27∧x27<(c3:Nat) then p2.bind fun a9=>(Ai .i64 σ a9.block (a9.off+x27.toNat*2)).bind fun n10=>(Ai .i64 σ a9.block (a9.off+x27.toNat*2+1)).bind fun n11=>CA σ (.cells [.int .i64 (0:Int),.int .i64 (0:Int)] 51 true) fun h12 s13=>To s13 h12 0 [.int .i64 n10,.int .i64 n11] fun s14=>(Ai .i64 s14 h12 (0+0)).bind fun n15=>(bif decide ((Ac (i0-n15))>(0:Int)) then ((Ai .i64 s14 h12 (0+1)).bind fun n16=>V4 s14 h12 (0+0) (.int .i64 i0) fun s17=>V4 s17 h12 (0+1) (.int .i64 (Ac (n16-(Ac (i0-n15))))) fun s18=>some (.normal,[],s18)) else (some (.normal,[],s14)):Option Aw).bind fun r19=>if r19.1 = .normal then ((Ai .i64 r19.2.2 h12 (0+1)).bind fun n20=>(bif decide (n20≥i1) then ((Ai .i64 r19.2.2 h12 0).bind fun n21=>(Ai .i64 r19.2.2 h12 (0+1)).bind fun n22=>CA r19.2.2 (.cells [.int .i64 n21,.int .i64 n22] 51 true) fun h23 s24=>(Bs P 51 (x7.1,x7.2.1,x7.2.2) (some ⟨h23,0,none⟩,1,1) s24).bind fun r25=>fR r25 fun r25=>some (.normal,[.slice r25.1.1 r25.1.2.1 r25.1.2.2],r25.2)) else (some (.normal,[.slice x7.1 x7.2.1 x7.2.2],r19.2.2)):Option Aw).bind fun r26=>if r26.1 = .normal then (Zc r26.2.1 fun l27=>FF k n i0 i1 p2 c3 c4 i5 (l27.1,l27.2.1,l27.2.2) (Ac (x27+(1:Int))) r26.2.2) else none) else none else none) else (some (.exit 2,[.slice x7.1 x7.2.1 x7.2.2],σ)))
termination_by structural n
theorem Kg (k n:Nat) (i0:Int) (i1:Int) (p2:Option Addr) (c3:Nat) (c4:Nat) (i5:Int) (x7:Option Addr × Nat × Nat) (x27:Int) (σ:Aa):BA k n i0 i1 p2 c3 c4 i5 x7 x27 σ=FF k n i0 i1 p2 c3 c4 i5 x7 x27 σ:=by
 induction n generalizing i0 i1 p2 c3 c4 i5 x7 x27 σ with
 | zero=>simp only[BA,Ab]; rfl
 | succ n ih=>rw[Gz,F8,FF]; simp only[Nq,C5,ih,AW,AP,Ba,AY,AZ,Bc,Bb,AV,Be,Ao,Az,Bf,Ag,Ar,Aq,Ak]
noncomputable def FE (k n:Nat) (p0:Option Addr) (i1:Int) (i2:Int) (p3:Option Addr) (c4:Nat) (c5:Nat) (i6:Int) (x7:Option Addr × Nat × Nat) (x16:Int) (σ:Aa):Option Aw:=match n with
 | 0=>none
 | n+1=>(fP p0 fun p0=>fI i1 fun i1=>fI i2 fun i2=>fP p3 fun p3=>fN c4 fun c4=>fN c5 fun c5=>fI i6 fun i6=>fS x7 fun x7=>fI x16 fun x16=>fL σ fun σ=>bif decide (x16<i6) then (if 0≤x16∧x16<(c4:Nat) then p3.bind fun a3=>(Ai .i64 σ a3.block (a3.off+x16.toNat*1)).bind fun n4=>p0.bind fun a5=>(Jn σ a5.block (a5.off+0)).bind fun p6=>(Oi k p6 n4 σ).bind fun r7=>(Hu r7.1).bind fun l8=>(FF k k i1 i2 l8.1 l8.2.1 l8.2.2 ((l8.2.1:Nat):Int) (x7.1,x7.2.1,x7.2.2) (0:Int) r7.2).bind fun r28=>if r28.1 = .exit 2 then (Zc r28.2.1 fun l29=>FE k n p0 i1 i2 p3 c4 c5 i6 (l29.1,l29.2.1,l29.2.2) (Ac (x16+(1:Int))) r28.2.2) else none else none) else (some (.exit 0,[.slice x7.1 x7.2.1 x7.2.2],σ)))
termination_by structural n
theorem PF (k n:Nat) (p0:Option Addr) (i1:Int) (i2:Int) (p3:Option Addr) (c4:Nat) (c5:Nat) (i6:Int) (x7:Option Addr × Nat × Nat) (x16:Int) (σ:Aa):B9 k n p0 i1 i2 p3 c4 c5 i6 x7 x16 σ=FE k n p0 i1 i2 p3 c4 c5 i6 x7 x16 σ:=by
 induction n generalizing p0 i1 i2 p3 c4 c5 i6 x7 x16 σ with
 | zero=>simp only[B9,Ab]; rfl
 | succ n ih=>rw[Gy,F7,FE]; simp only[Nq,C5,Kg,ih,AW,AP,Ba,AY,AZ,Bc,Bb,AV,Be,Ao,Az,Bf,Ag,Ar,Aq,Ak]
noncomputable def Ey (k:Nat) (x0:Option Addr) (x1:Int) (x2:Int) (σ:Aa):Option (Value × Aa):=match k with
 | 0=>none
 | k+1=>(fP x0 fun x0=>fI x1 fun x1=>fI x2 fun x2=>fL σ fun σ=>(Gg k x0 σ).bind fun r1=>(Hu r1.1).bind fun l2=>(FE k k x0 x1 x2 l2.1 l2.2.1 l2.2.2 ((l2.2.1:Nat):Int) (none,0,0) (0:Int) r1.2).bind fun r30=>if r30.1 = .exit 0 then (Zc r30.2.1 fun l31=>some (.slice l31.1 l31.2.1 l31.2.2,r30.2.2)) else none)
theorem It (k:Nat) (x0:Option Addr) (x1:Int) (x2:Int) (σ:Aa):AM k x0 x1 x2 σ=Ey k x0 x1 x2 σ:=by
 cases k with
 | zero=>simp only[AM,Ab]; rfl
 | succ k=>rw[KV,IY,Ey]; simp only[Nq,C5,Kg,PF,AW,AP,Ba,AY,AZ,Bc,Bb,AV,Be,Ao,Az,Bf,Ag,Ar,Aq,Ak]
noncomputable def Lp (k:Nat) (x1:Option Addr) (x2:Int) (σ:Aa):Option (Value × Aa):=match k with
 | 0=>none
 | k+1=>(fP x1 fun x1=>fI x2 fun x2=>fL σ fun σ=>CA σ (.cells [] 150 true) fun h1 s2=>(Ey k x1 (0:Int) x2 s2).bind fun r3=>(Hu r3.1).bind fun l4=>(EY k x1 (l4.1,l4.2.1,l4.2.2) r3.2).bind fun r5=>Wv r5.1 fun n6 b7=>fI n6 fun y8=>fB b7 fun y9=>some (.tuple #[.int .i64 y8,.bool y9],r5.2))
theorem Ud (k:Nat) (x1:Option Addr) (x2:Int) (σ:Aa):CS k x1 x2 σ=Lp k x1 x2 σ:=by
 cases k with
 | zero=>simp only[CS,Ab]; rfl
 | succ k=>rw[Nc,Le,Lp]; simp only[HR,It,AW,AP,Ba,AY,AZ,Bc,Bb,AV,Be,Ao,Az,Bf,Ag,Ar,Aq,Ak]
theorem T9 (k:Nat) (x1:Option Addr) (x2:Int) (σ:Aa):fn P (XK Kn.b) H k 199 [.agg #[],.pointer x1,.int .i64 x2] σ=CS k x1 x2 σ:=by
 simp only[CS,Ab]
noncomputable def JO (k:Nat) (x0_0:Int) (x0_1:Int) (x1_0:Int) (x1_1:Int) (σ:Aa):Option (Value × Aa):=match k with
 | 0=>none
 | k+1=>(fI x0_0 fun x0_0=>fI x0_1 fun x0_1=>fI x1_0 fun x1_0=>fI x1_1 fun x1_1=>fL σ fun σ=>CA σ (.cells [.int .i64 x0_0,.int .i64 x0_1] 51 true) fun h1 s2=>CA s2 (.cells [.int .i64 x1_0,.int .i64 x1_1] 51 true) fun h3 s4=>(Ai .i64 s4 h1 (0+1)).bind fun n5=>(Ai .i64 s4 h3 (0+1)).bind fun n6=>fI (Ac (n5-n6)) fun y7=>some (.int .i64 y7,s4))
theorem S8 (k:Nat) (x0_0:Int) (x0_1:Int) (x1_0:Int) (x1_1:Int) (σ:Aa):CR k x0_0 x0_1 x1_0 x1_1 σ=JO k x0_0 x0_1 x1_0 x1_1 σ:=by
 cases k with
 | zero=>simp only[CR,Ab]; rfl
 | succ k=>rw[Lu,JA,JO]; simp only[AW,AP,Ba,AY,AZ,Bc,Bb,AV,Be,Ao,Az,Bf,Ag,Ar,Aq,Ak]
theorem RJ (k:Nat) (x0_0:Int) (x0_1:Int) (x1_0:Int) (x1_1:Int) (σ:Aa):fn P (XK Kn.b) H k 206 [.agg #[.int .i64 x0_0,.int .i64 x0_1],.agg #[.int .i64 x1_0,.int .i64 x1_1]] σ=CR k x0_0 x0_1 x1_0 x1_1 σ:=by
 simp only[CR,Ab]
noncomputable def Nw (k:Nat) (n:FuncId) (l:List Value) (σ:Aa):Option (Value × Aa):=
 if n=206 then (match l with
  | [.agg ⟨[.int .i64 y1,.int .i64 y2]⟩,.agg ⟨[.int .i64 y3,.int .i64 y4]⟩]=>JO k y1 y2 y3 y4 σ
  | l=>fn P (XK Kn.b) H k 206 l σ) else
 fn P (XK Kn.b) H k n l σ
theorem Zj (k:Nat) (n:FuncId) (l:List Value) (σ:Aa):fn P (XK Kn.b) H k n l σ=Nw k n l σ:=by
 unfold Nw
 split
 ·rename_i hn; subst hn
  split
  ·exact (RJ k _ _ _ _ σ).trans (S8 k _ _ _ _ σ)
  ·rfl
 rfl
noncomputable def Qy (k:Nat) (f:Value) (args:List Value) (σ:Aa):Option (Value × Aa):=match f with
 | .func (.func n) first cap=>Nw k n (first.toList++args++cap.toList) σ
 | .func (.method nm) first _=>(match first.toList++args with
   | .iface t v::rest=>(SS P t nm).bind fun n=>Nw k n (v::rest) σ
   | _=>none)
 | _=>none
theorem Pc (k:Nat) (f:Value) (args:List Value) (σ:Aa):CX k f args σ=Qy k f args σ:=by
 simp only[CX,Ab]
 unfold Ow Qy
 simp only[Zj]
 rfl
noncomputable def C2 (k n:Nat) (p0:Option Addr) (c1:Nat) (c2:Nat) (i3:Int) (v4:Value) (x9:Int) (σ:Aa):Option Aw:=match n with
 | 0=>none
 | n+1=>(fP p0 fun p0=>fN c1 fun c1=>fN c2 fun c2=>fI i3 fun i3=>fI x9 fun x9=>fL σ fun σ=>(bif decide (x9>i3) then if 0≤x9∧x9<(c1:Nat) then p0.bind fun a1=>(Ai .i64 σ a1.block (a1.off+x9.toNat*2)).bind fun n2=>(Ai .i64 σ a1.block (a1.off+x9.toNat*2+1)).bind fun n3=>if 0≤(Ac (x9-(1:Int)))∧(Ac (x9-(1:Int)))<(c1:Nat) then p0.bind fun a4=>(Ai .i64 σ a4.block (a4.off+(Ac (x9-(1:Int))).toNat*2)).bind fun n5=>(Ai .i64 σ a4.block (a4.off+(Ac (x9-(1:Int))).toNat*2+1)).bind fun n6=>(Qy k v4 [.agg #[.int .i64 n2,.int .i64 n3],.agg #[.int .i64 n5,.int .i64 n6]] σ).bind fun r7=>(BE .i64 r7.1).bind fun n8=>some (decide (n8<(0:Int)),r7.2) else none else none else some (false,σ)).bind fun r9=>bif r9.1 then (if 0≤(Ac (x9-(1:Int)))∧(Ac (x9-(1:Int)))<(c1:Nat) then p0.bind fun a10=>(Ai .i64 r9.2 a10.block (a10.off+(Ac (x9-(1:Int))).toNat*2)).bind fun n11=>(Ai .i64 r9.2 a10.block (a10.off+(Ac (x9-(1:Int))).toNat*2+1)).bind fun n12=>if 0≤x9∧x9<(c1:Nat) then p0.bind fun a13=>(Ai .i64 r9.2 a13.block (a13.off+x9.toNat*2)).bind fun n14=>(Ai .i64 r9.2 a13.block (a13.off+x9.toNat*2+1)).bind fun n15=>if 0≤x9∧x9<(c1:Nat) then p0.bind fun a16=>To r9.2 a16.block (a16.off+x9.toNat*2) [.int .i64 n11,.int .i64 n12] fun s17=>if 0≤(Ac (x9-(1:Int)))∧(Ac (x9-(1:Int)))<(c1:Nat) then p0.bind fun a18=>To s17 a18.block (a18.off+(Ac (x9-(1:Int))).toNat*2) [.int .i64 n14,.int .i64 n15] fun s19=>C2 k n p0 c1 c2 i3 v4 (Ac (x9-(1:Int))) s19 else none else none else none else none) else (some (.exit 2,[],r9.2)))
termination_by structural n
theorem F5 (k n:Nat) (p0:Option Addr) (c1:Nat) (c2:Nat) (i3:Int) (v4:Value) (x9:Int) (σ:Aa):AG k n p0 c1 c2 i3 v4 x9 σ=C2 k n p0 c1 c2 i3 v4 x9 σ:=by
 induction n generalizing p0 c1 c2 i3 v4 x9 σ with
 | zero=>simp only[AG,Ab]; rfl
 | succ n ih=>rw[Df,Cz,C2]; simp only[Pc,ih,AW,AP,Ba,AY,AZ,Bc,Bb,AV,Be,Ao,Az,Bf,Ag,Ar,Aq,Ak]
noncomputable def C1 (k n:Nat) (p0:Option Addr) (c1:Nat) (c2:Nat) (i3:Int) (i4:Int) (v5:Value) (x8:Int) (σ:Aa):Option Aw:=match n with
 | 0=>none
 | n+1=>(fP p0 fun p0=>fN c1 fun c1=>fN c2 fun c2=>fI i3 fun i3=>fI i4 fun i4=>fI x8 fun x8=>fL σ fun σ=>bif decide (x8<i4) then ((C2 k k p0 c1 c2 i3 v5 x8 σ).bind fun r20=>if r20.1 = .exit 2 then (C1 k n p0 c1 c2 i3 i4 v5 (Ac (x8+(1:Int))) r20.2.2) else none) else (some (.exit 0,[],σ)))
termination_by structural n
theorem J1 (k n:Nat) (p0:Option Addr) (c1:Nat) (c2:Nat) (i3:Int) (i4:Int) (v5:Value) (x8:Int) (σ:Aa):AF k n p0 c1 c2 i3 i4 v5 x8 σ=C1 k n p0 c1 c2 i3 i4 v5 x8 σ:=by
 induction n generalizing p0 c1 c2 i3 i4 v5 x8 σ with
 | zero=>simp only[AF,Ab]; rfl
 | succ n ih=>rw[De,Cy,C1]; simp only[Pc,F5,ih,AW,AP,Ba,AY,AZ,Bc,Bb,AV,Be,Ao,Az,Bf,Ag,Ar,Aq,Ak]
noncomputable def CQ (k:Nat) (x0:Option Addr × Nat × Nat) (x1:Int) (x2:Int) (x3:Value) (σ:Aa):Option (Value × Aa):=match k with
 | 0=>none
 | k+1=>(fS x0 fun x0=>fI x1 fun x1=>fI x2 fun x2=>fL σ fun σ=>(C1 k k x0.1 x0.2.1 x0.2.2 x1 x2 x3 (Ac (x1+(1:Int))) σ).bind fun r21=>if r21.1 = .exit 0 then (some (.tuple #[],r21.2.2)) else none)
theorem CL (k:Nat) (x0:Option Addr × Nat × Nat) (x1:Int) (x2:Int) (x3:Value) (σ:Aa):A7 k x0 x1 x2 x3 σ=CQ k x0 x1 x2 x3 σ:=by
 cases k with
 | zero=>simp only[A7,Ab]; rfl
 | succ k=>rw[DQ,CN,CQ]; simp only[Pc,F5,J1,AW,AP,Ba,AY,AZ,Bc,Bb,AV,Be,Ao,Az,Bf,Ag,Ar,Aq,Ak]
noncomputable def Fy (k:Nat) (x0:Option Addr × Nat × Nat) (x1:Int) (x2:Int) (x3:Int) (x4:Value) (σ:Aa):Option (Value × Aa):=Ay k x0 x1 x2 x3 x4 σ
theorem DA (k:Nat) (x0:Option Addr × Nat × Nat) (x1:Int) (x2:Int) (x3:Int) (x4:Value) (σ:Aa):Ay k x0 x1 x2 x3 x4 σ=Fy k x0 x1 x2 x3 x4 σ:=rfl
noncomputable def D7 (k n:Nat) (p0:Option Addr) (c1:Nat) (c2:Nat) (i3:Int) (v4:Value) (x7:Int) (x8:Int) (σ:Aa):Option Aw:=match n with
 | 0=>none
 | n+1=>(fP p0 fun p0=>fN c1 fun c1=>fN c2 fun c2=>fI i3 fun i3=>fI x7 fun x7=>fI x8 fun x8=>fL σ fun σ=>bif decide (x8≤i3) then ((CQ k (p0,c1,c2) x7 x8 (v4) σ).bind fun r1=>TT r1.1 (D7 k n p0 c1 c2 i3 v4 x8 (Ac (x8+(20:Int))) r1.2)) else (some (.exit 0,[.int .i64 x7],σ)))
termination_by structural n
theorem EP (k n:Nat) (p0:Option Addr) (c1:Nat) (c2:Nat) (i3:Int) (v4:Value) (x7:Int) (x8:Int) (σ:Aa):AQ k n p0 c1 c2 i3 v4 x7 x8 σ=D7 k n p0 c1 c2 i3 v4 x7 x8 σ:=by
 induction n generalizing p0 c1 c2 i3 v4 x7 x8 σ with
 | zero=>simp only[AQ,Ab]; rfl
 | succ n ih=>rw[E6,D5,D7]; simp only[CL,DA,ih,AW,AP,Ba,AY,AZ,Bc,Bb,AV,Be,Ao,Az,Bf,Ag,Ar,Aq,Ak]
noncomputable def D9 (k n:Nat) (p0:Option Addr) (c1:Nat) (c2:Nat) (i3:Int) (v4:Value) (i5:Int) (x7:Int) (x8:Int) (σ:Aa):Option Aw:=match n with
 | 0=>none
 | n+1=>(fP p0 fun p0=>fN c1 fun c1=>fN c2 fun c2=>fI i3 fun i3=>fI i5 fun i5=>fI x7 fun x7=>fI x8 fun x8=>fL σ fun σ=>bif decide (x8≤i3) then ((Fy k (p0,c1,c2) x7 (Ac (x7+i5)) x8 (v4) σ).bind fun r5=>TT r5.1 (D9 k n p0 c1 c2 i3 v4 i5 x8 (Ac (x8+(Ac ((2:Int)*i5)))) r5.2)) else (some (.exit 4,[.int .i64 x7],σ)))
termination_by structural n
theorem Hb (k n:Nat) (p0:Option Addr) (c1:Nat) (c2:Nat) (i3:Int) (v4:Value) (i5:Int) (x7:Int) (x8:Int) (σ:Aa):Bm k n p0 c1 c2 i3 v4 i5 x7 x8 σ=D9 k n p0 c1 c2 i3 v4 i5 x7 x8 σ:=by
 induction n generalizing p0 c1 c2 i3 v4 i5 x7 x8 σ with
 | zero=>simp only[Bm,Ab]; rfl
 | succ n ih=>rw[G6,Fb,D9]; simp only[CL,DA,EP,ih,AW,AP,Ba,AY,AZ,Bc,Bb,AV,Be,Ao,Az,Bf,Ag,Ar,Aq,Ak]
noncomputable def D8 (k n:Nat) (p0:Option Addr) (c1:Nat) (c2:Nat) (i3:Int) (v4:Value) (x6:Int) (σ:Aa):Option Aw:=match n with
 | 0=>none
 | n+1=>(fP p0 fun p0=>fN c1 fun c1=>fN c2 fun c2=>fI i3 fun i3=>fI x6 fun x6=>fL σ fun σ=>bif decide (x6<i3) then ((D9 k k p0 c1 c2 i3 v4 x6 (0:Int) (Ac ((2:Int)*x6)) σ).bind fun r6=>if r6.1 = .exit 4 then (Sw r6.2.1 fun n7=>(bif decide ((Ac (n7+x6))<i3) then ((Fy k (p0,c1,c2) n7 (Ac (n7+x6)) i3 (v4) r6.2.2).bind fun r8=>TT r8.1 (some (.normal,[],r8.2))) else (some (.normal,[],r6.2.2)):Option Aw).bind fun r9=>if r9.1 = .normal then (D8 k n p0 c1 c2 i3 v4 (Ac (x6*(2:Int))) r9.2.2) else none) else none) else (some (.exit 2,[],σ)))
termination_by structural n
theorem Mr (k n:Nat) (p0:Option Addr) (c1:Nat) (c2:Nat) (i3:Int) (v4:Value) (x6:Int) (σ:Aa):AR k n p0 c1 c2 i3 v4 x6 σ=D8 k n p0 c1 c2 i3 v4 x6 σ:=by
 induction n generalizing p0 c1 c2 i3 v4 x6 σ with
 | zero=>simp only[AR,Ab]; rfl
 | succ n ih=>rw[E7,D6,D8]; simp only[CL,DA,EP,Hb,ih,AW,AP,Ba,AY,AZ,Bc,Bb,AV,Be,Ao,Az,Bf,Ag,Ar,Aq,Ak]
noncomputable def FW (k:Nat) (x0:Option Addr × Nat × Nat) (x1:Int) (x2:Value) (σ:Aa):Option (Value × Aa):=match k with
 | 0=>none
 | k+1=>(fS x0 fun x0=>fI x1 fun x1=>fL σ fun σ=>(D7 k k x0.1 x0.2.1 x0.2.2 x1 x2 (0:Int) (20:Int) σ).bind fun r2=>if r2.1 = .exit 0 then (Sw r2.2.1 fun n3=>(CQ k (x0.1,x0.2.1,x0.2.2) n3 x1 (x2) r2.2.2).bind fun r4=>TT r4.1 ((D8 k k x0.1 x0.2.1 x0.2.2 x1 x2 (20:Int) r4.2).bind fun r10=>if r10.1 = .exit 2 then (some (.tuple #[],r10.2.2)) else none)) else none)
theorem N5 (k:Nat) (x0:Option Addr × Nat × Nat) (x1:Int) (x2:Value) (σ:Aa):Ck k x0 x1 x2 σ=FW k x0 x1 x2 σ:=by
 cases k with
 | zero=>simp only[Ck,Ab]; rfl
 | succ k=>rw[Fc,Ep,FW]; simp only[CL,DA,EP,Hb,Mr,AW,AP,Ba,AY,AZ,Bc,Bb,AV,Be,Ao,Az,Bf,Ag,Ar,Aq,Ak]
noncomputable def F6 (k:Nat) (x0:Option Addr × Nat × Nat) (x1:Value) (σ:Aa):Option (Value × Aa):=match k with
 | 0=>none
 | k+1=>(fS x0 fun x0=>fL σ fun σ=>(FW k (x0.1,x0.2.1,x0.2.2) ((x0.2.1:Nat):Int) (x1) σ).bind fun r1=>TT r1.1 (some (.tuple #[],r1.2)))
theorem N3 (k:Nat) (x0:Option Addr × Nat × Nat) (x1:Value) (σ:Aa):Bg k x0 x1 σ=F6 k x0 x1 σ:=by
 cases k with
 | zero=>simp only[Bg,Ab]; rfl
 | succ k=>rw[EO,Ee,F6]; simp only[N5,AW,AP,Ba,AY,AZ,Bc,Bb,AV,Be,Ao,Az,Bf,Ag,Ar,Aq,Ak]
noncomputable def Mi (k:Nat) (x1:Option Addr) (x2:Int) (σ:Aa):Option (Value × Aa):=match k with
 | 0=>none
 | k+1=>(fP x1 fun x1=>fI x2 fun x2=>fL σ fun σ=>CA σ (.cells [] 151 true) fun h1 s2=>(Ey k x1 (0:Int) x2 s2).bind fun r3=>(Hu r3.1).bind fun l4=>(F6 k (l4.1,l4.2.1,l4.2.2) (.func (.func 206) #[] #[]) r3.2).bind fun r5=>TT r5.1 ((EY k x1 (l4.1,l4.2.1,l4.2.2) r5.2).bind fun r6=>Wv r6.1 fun n7 b8=>fI n7 fun y9=>fB b8 fun y10=>some (.tuple #[.int .i64 y9,.bool y10],r6.2)))
theorem Vo (k:Nat) (x1:Option Addr) (x2:Int) (σ:Aa):Dr k x1 x2 σ=Mi k x1 x2 σ:=by
 cases k with
 | zero=>simp only[Dr,Ab]; rfl
 | succ k=>rw[N6,LO,Mi]; simp only[HR,It,N3,AW,AP,Ba,AY,AZ,Bc,Bb,AV,Be,Ao,Az,Bf,Ag,Ar,Aq,Ak]
theorem Ub (k:Nat) (x1:Option Addr) (x2:Int) (σ:Aa):fn P (XK Kn.b) H k 204 [.agg #[],.pointer x1,.int .i64 x2] σ=Dr k x1 x2 σ:=by
 simp only[Dr,Ab]
noncomputable def Ml (k:Nat) (x1:Option Addr) (x2:Int) (σ:Aa):Option (Value × Aa):=match k with
 | 0=>none
 | k+1=>(fP x1 fun x1=>fI x2 fun x2=>fL σ fun σ=>CA σ (.cells [] 152 true) fun h1 s2=>x1.bind fun a3=>(Ai .i64 s2 a3.block (a3.off+3+0)).bind fun n4=>(Ey k x1 n4 x2 s2).bind fun r5=>(Hu r5.1).bind fun l6=>(Ey k x1 (0:Int) x2 r5.2).bind fun r7=>(Hu r7.1).bind fun l8=>(Bs P 51 (l6.1,l6.2.1,l6.2.2) (l8.1,l8.2.1,l8.2.2) r7.2).bind fun r9=>fR r9 fun r9=>(EY k x1 (r9.1.1,r9.1.2.1,r9.1.2.2) r9.2).bind fun r10=>Wv r10.1 fun n11 b12=>(bif b12 then (x1.bind fun a13=>V4 r10.2 a13.block (a13.off+3+0) (.int .i64 (Ac (n11+x2))) fun s14=>some (.normal,[],s14)) else (some (.normal,[],r10.2)):Option Aw).bind fun r15=>if r15.1 = .normal then (fI n11 fun y16=>fB b12 fun y17=>some (.tuple #[.int .i64 y16,.bool y17],r15.2.2)) else none)
theorem Vq (k:Nat) (x1:Option Addr) (x2:Int) (σ:Aa):Dt k x1 x2 σ=Ml k x1 x2 σ:=by
 cases k with
 | zero=>simp only[Dt,Ab]; rfl
 | succ k=>rw[N8,LQ,Ml]; simp only[HR,It,AW,AP,Ba,AY,AZ,Bc,Bb,AV,Be,Ao,Az,Bf,Ag,Ar,Aq,Ak]
theorem Uf (k:Nat) (x1:Option Addr) (x2:Int) (σ:Aa):fn P (XK Kn.b) H k 212 [.agg #[],.pointer x1,.int .i64 x2] σ=Dt k x1 x2 σ:=by
 simp only[Dt,Ab]
noncomputable def KN (k:Nat) (x0:Option Addr) (x1:Int) (σ:Aa):Option (Value × Aa):=match k with
 | 0=>none
 | k+1=>(fP x0 fun x0=>fI x1 fun x1=>fL σ fun σ=>x0.bind fun a1=>(Ai .i64 σ a1.block (a1.off+1)).bind fun n2=>x0.bind fun a3=>(Ai .i64 σ a3.block (a3.off+0)).bind fun n4=>fB (decide ((Ac (n2-n4))≥x1)) fun y5=>some (.bool y5,σ))
theorem QI (k:Nat) (x0:Option Addr) (x1:Int) (σ:Aa):DC k x0 x1 σ=KN k x0 x1 σ:=by
 cases k with
 | zero=>simp only[DC,Ab]; rfl
 | succ k=>rw[Pj,NN,KN]; simp only[AW,AP,Ba,AY,AZ,Bc,Bb,AV,Be,Ao,Az,Bf,Ag,Ar,Aq,Ak]
noncomputable def JW (k:Nat) (x0:Option Addr) (x1:Int) (σ:Aa):Option (Value × Aa):=match k with
 | 0=>none
 | k+1=>(fP x0 fun x0=>fI x1 fun x1=>fL σ fun σ=>x0.bind fun a1=>(Ai .i64 σ a1.block (a1.off+0)).bind fun n2=>x0.bind fun a3=>V4 σ a3.block (a3.off+0) (.int .i64 (Ac (n2+x1))) fun s4=>x0.bind fun a5=>(Ai .i64 s4 a5.block (a5.off+0)).bind fun n6=>fI (Ac (n6-x1)) fun y7=>some (.int .i64 y7,s4))
theorem PH (k:Nat) (x0:Option Addr) (x1:Int) (σ:Aa):Dc k x0 x1 σ=JW k x0 x1 σ:=by
 cases k with
 | zero=>simp only[Dc,Ab]; rfl
 | succ k=>rw[O8,MM,JW]; simp only[AW,AP,Ba,AY,AZ,Bc,Bb,AV,Be,Ao,Az,Bf,Ag,Ar,Aq,Ak]
noncomputable def Gh (k:Nat) (x0:Option Addr) (x1:Option Addr) (x2:Int) (σ:Aa):Option (Value × Aa):=match k with
 | 0=>none
 | k+1=>(fP x0 fun x0=>fP x1 fun x1=>fI x2 fun x2=>fL σ fun σ=>(KN k x1 x2 σ).bind fun r1=>(Ed r1.1).bind fun b2=>(bif !b2 then ((EX k x0 r1.2).bind fun r3=>(Z9 r3.1).bind fun q4=>if q4.length=2 then q4.head?.bind fun v5=>bU v5 fun n6 n7=>q4.tail.head?.bind fun v8=>(Ed v8).bind fun b9=>CA r3.2 (.cells [.int .i64 (0:Int),.int .i64 (0:Int)] 120 true) fun h10 s11=>To s11 h10 0 [.int .i64 n6,.int .i64 n7] fun s12=>bif !b9 then (some (.ret,[.int .i64 (0:Int),.bool false],s12)) else ((Ai .i64 s12 h10 0).bind fun n13=>(Ai .i64 s12 h10 (0+1)).bind fun n14=>x1.bind fun a15=>To s12 a15.block a15.off [.int .i64 n13,.int .i64 n14] fun s16=>some (.normal,[],s16)) else none) else (some (.normal,[],r1.2)):Option Aw).bind fun r17=>if r17.1 = .normal then ((JW k x1 x2 r17.2.2).bind fun r18=>(BE .i64 r18.1).bind fun n19=>fI n19 fun y20=>fB true fun y21=>some (.tuple #[.int .i64 y20,.bool y21],r18.2)) else if r17.1 = .ret then (cl r17.2.1 fun n22 b23=>fI n22 fun y24=>fB b23 fun y25=>some (.tuple #[.int .i64 y24,.bool y25],r17.2.2)) else none)
theorem KU (k:Nat) (x0:Option Addr) (x1:Option Addr) (x2:Int) (σ:Aa):Bv k x0 x1 x2 σ=Gh k x0 x1 x2 σ:=by
 cases k with
 | zero=>simp only[Bv,Ab]; rfl
 | succ k=>rw[JU,HT,Gh]; simp only[DB,QI,PH,AW,AP,Ba,AY,AZ,Bc,Bb,AV,Be,Ao,Az,Bf,Ag,Ar,Aq,Ak]
noncomputable def Mj (k:Nat) (x1:Option Addr) (x2:Int) (σ:Aa):Option (Value × Aa):=match k with
 | 0=>none
 | k+1=>(fP x1 fun x1=>fI x2 fun x2=>fL σ fun σ=>CA σ (.cells [] 153 true) fun h1 s2=>x1.bind fun a3=>(Gh k x1 (some ⟨a3.block,a3.off+3,none⟩) x2 s2).bind fun r4=>Wv r4.1 fun n5 b6=>fI n5 fun y7=>fB b6 fun y8=>some (.tuple #[.int .i64 y7,.bool y8],r4.2))
theorem Vp (k:Nat) (x1:Option Addr) (x2:Int) (σ:Aa):Ds k x1 x2 σ=Mj k x1 x2 σ:=by
 cases k with
 | zero=>simp only[Ds,Ab]; rfl
 | succ k=>rw[N7,LP,Mj]; simp only[KU,AW,AP,Ba,AY,AZ,Bc,Bb,AV,Be,Ao,Az,Bf,Ag,Ar,Aq,Ak]
theorem Uc (k:Nat) (x1:Option Addr) (x2:Int) (σ:Aa):fn P (XK Kn.b) H k 213 [.agg #[],.pointer x1,.int .i64 x2] σ=Ds k x1 x2 σ:=by
 simp only[Ds,Ab]
noncomputable def HJ (k n:Nat) (h0:Nat) (c1:Nat) (i2:Int) (x10:Int) (σ:Aa):Option Aw:=match n with
 | 0=>none
 | n+1=>(fN h0 fun h0=>fN c1 fun c1=>fI i2 fun i2=>fI x10 fun x10=>fL σ fun σ=>if (8:Int)=0 then none else bif decide (x10≤(Ac (i2.tdiv (8:Int)))) then (if 0≤x10∧x10<(c1:Nat) then V4 σ h0 (0+x10.toNat*1) (.bool true) fun s11=>HJ k n h0 c1 i2 (Ac (x10+(1:Int))) s11 else none) else (some (.exit 2,[],σ)))
termination_by structural n
theorem NH (k n:Nat) (h0:Nat) (c1:Nat) (i2:Int) (x10:Int) (σ:Aa):Di k n h0 c1 i2 x10 σ=HJ k n h0 c1 i2 x10 σ:=by
 induction n generalizing h0 c1 i2 x10 σ with
 | zero=>simp only[Di,Ab]; rfl
 | succ n ih=>rw[I5,Hy,HJ]; simp only[Gm,HE,Ft,ih,AW,AP,Ba,AY,AZ,Bc,Bb,AV,Be,Ao,Az,Bf,Ag,Ar,Aq,Ak]
noncomputable def HI (k n:Nat) (p0:Option Addr) (h1:Nat) (c2:Nat) (p3:Option Addr) (c4:Nat) (c5:Nat) (i6:Int) (x20:Int) (σ:Aa):Option Aw:=match n with
 | 0=>none
 | n+1=>(fP p0 fun p0=>fN h1 fun h1=>fN c2 fun c2=>fP p3 fun p3=>fN c4 fun c4=>fN c5 fun c5=>fI i6 fun i6=>fI x20 fun x20=>fL σ fun σ=>bif decide (x20<i6) then (if 0≤x20∧x20<(c4:Nat) then p3.bind fun a7=>(Ai .i64 σ a7.block (a7.off+x20.toNat*1)).bind fun n8=>if (64:Int)=0 then none else if (64:Int)=0 then none else (GO k p0 n8 σ).bind fun r9=>(BE .i64 r9.1).bind fun n10=>if (8:Int)=0 then none else (HJ k k h1 c2 (Ac ((Ac ((n8.tmod (64:Int))+n10))-(1:Int))) (Ac ((n8.tmod (64:Int)).tdiv (8:Int))) r9.2).bind fun r12=>if r12.1 = .exit 2 then (HI k n p0 h1 c2 p3 c4 c5 i6 (Ac (x20+(1:Int))) r12.2.2) else none else none) else (some (.exit 0,[],σ)))
termination_by structural n
theorem TM (k n:Nat) (p0:Option Addr) (h1:Nat) (c2:Nat) (p3:Option Addr) (c4:Nat) (c5:Nat) (i6:Int) (x20:Int) (σ:Aa):Dh k n p0 h1 c2 p3 c4 c5 i6 x20 σ=HI k n p0 h1 c2 p3 c4 c5 i6 x20 σ:=by
 induction n generalizing p0 h1 c2 p3 c4 c5 i6 x20 σ with
 | zero=>simp only[Dh,Ab]; rfl
 | succ n ih=>rw[I4,Hx,HI]; simp only[Gm,HE,Ft,NH,ih,AW,AP,Ba,AY,AZ,Bc,Bb,AV,Be,Ao,Az,Bf,Ag,Ar,Aq,Ak]
noncomputable def Nx (k:Nat) (x0:Option Addr) (x1:Int) (σ:Aa):Option (Value × Aa):=match k with
 | 0=>none
 | k+1=>(fP x0 fun x0=>fI x1 fun x1=>fL σ fun σ=>(KP k x0 x1 σ).bind fun r1=>(Ed r1.1).bind fun b2=>bif !b2 then (some (.slice none 0 0,r1.2)) else (if 0≤(8:Int)∧(8:Int)≤(8:Int)∧(8:Int)*(1:Nat)≤2 ^ 40∧(8:Int)≤2 ^ 40 then CA r1.2 (.cells (rep (8:Int).toNat [.bool false]) 4 true) fun h3 s4=>(Ip k x0 x1 s4).bind fun r5=>(Hu r5.1).bind fun l6=>(HI k k x0 h3 ((8:Int).toNat) l6.1 l6.2.1 l6.2.2 ((l6.2.1:Nat):Int) (0:Int) r5.2).bind fun r13=>if r13.1 = .exit 0 then (some (.slice (some ⟨h3,0,none⟩) ((8:Int).toNat) ((8:Int).toNat),r13.2.2)) else none else none))
theorem Jl (k:Nat) (x0:Option Addr) (x1:Int) (σ:Aa):DT k x0 x1 σ=Nx k x0 x1 σ:=by
 cases k with
 | zero=>simp only[DT,Ab]; rfl
 | succ k=>rw[H8,Hw,Nx]; simp only[Gm,HE,Ft,NH,TM,AW,AP,Ba,AY,AZ,Bc,Bb,AV,Be,Ao,Az,Bf,Ag,Ar,Aq,Ak]
noncomputable def FI (k n:Nat) (p0:Option Addr) (c1:Nat) (c2:Nat) (x8:Int) (σ:Aa):Option Aw:=match n with
 | 0=>none
 | n+1=>(fP p0 fun p0=>fN c1 fun c1=>fN c2 fun c2=>fI x8 fun x8=>fL σ fun σ=>(bif decide (x8<((c1:Nat):Int)) then if 0≤x8∧x8<(c1:Nat) then p0.bind fun a11=>(WC σ a11.block (a11.off+x8.toNat*1)).bind fun b12=>some (!b12,σ) else none else some (false,σ)).bind fun r13=>bif r13.1 then (FI k n p0 c1 c2 (Ac (x8+(1:Int))) r13.2) else (some (.exit 4,[.int .i64 x8],r13.2)))
termination_by structural n
theorem GQ (k n:Nat) (p0:Option Addr) (c1:Nat) (c2:Nat) (x8:Int) (σ:Aa):Cc k n p0 c1 c2 x8 σ=FI k n p0 c1 c2 x8 σ:=by
 induction n generalizing p0 c1 c2 x8 σ with
 | zero=>simp only[Cc,Ab]; rfl
 | succ n ih=>rw[G1,FA,FI]; simp only[Jl,DB,C5,ih,AW,AP,Ba,AY,AZ,Bc,Bb,AV,Be,Ao,Az,Bf,Ag,Ar,Aq,Ak]
noncomputable def FH (k n:Nat) (p0:Option Addr) (h1:Nat) (i2:Int) (p3:Option Addr) (c4:Nat) (c5:Nat) (x7:Int) (σ:Aa):Option Aw:=match n with
 | 0=>none
 | n+1=>(fP p0 fun p0=>fN h1 fun h1=>fI i2 fun i2=>fP p3 fun p3=>fN c4 fun c4=>fN c5 fun c5=>fI x7 fun x7=>fL σ fun σ=>bif decide (x7<((c4:Nat):Int)) then ((FI k k p3 c4 c5 x7 σ).bind fun r14=>if r14.1 = .exit 4 then (Sw r14.2.1 fun n15=>(bif decide (n15>x7) then p0.bind fun a16=>(Ai .i64 r14.2.2 a16.block (a16.off+3+1)).bind fun n17=>some (decide ((Ac ((Ac (i2*(64:Int)))+(Ac (x7*(8:Int)))))≥n17),r14.2.2) else some (false,r14.2.2)).bind fun r18=>bif r18.1 then (To r18.2 h1 0 [.int .i64 (Ac ((Ac (i2*(64:Int)))+(Ac (x7*(8:Int))))),.int .i64 (Ac ((Ac (i2*(64:Int)))+(Ac (n15*(8:Int)))))] fun s19=>some (.ret,[.bool true],s19)) else (FH k n p0 h1 i2 p3 c4 c5 (Ac ((if n15>x7 then n15 else x7)+(1:Int))) r18.2)) else none) else (some (.exit 2,[],σ)))
termination_by structural n
theorem Kh (k n:Nat) (p0:Option Addr) (h1:Nat) (i2:Int) (p3:Option Addr) (c4:Nat) (c5:Nat) (x7:Int) (σ:Aa):Cb k n p0 h1 i2 p3 c4 c5 x7 σ=FH k n p0 h1 i2 p3 c4 c5 x7 σ:=by
 induction n generalizing p0 h1 i2 p3 c4 c5 x7 σ with
 | zero=>simp only[Cb,Ab]; rfl
 | succ n ih=>rw[Jx,Hl,FH]; simp only[Jl,DB,C5,GQ,ih,AW,AP,Ba,AY,AZ,Bc,Bb,AV,Be,Ao,Az,Bf,Ag,Ar,Aq,Ak]
noncomputable def FG (k n:Nat) (p0:Option Addr) (h1:Nat) (p2:Option Addr) (c3:Nat) (c4:Nat) (i5:Int) (x13:Int) (σ:Aa):Option Aw:=match n with
 | 0=>none
 | n+1=>(fP p0 fun p0=>fN h1 fun h1=>fP p2 fun p2=>fN c3 fun c3=>fN c4 fun c4=>fI i5 fun i5=>fI x13 fun x13=>fL σ fun σ=>bif decide (x13<i5) then (if 0≤x13∧x13<(c3:Nat) then p2.bind fun a5=>(Ai .i64 σ a5.block (a5.off+x13.toNat*1)).bind fun n6=>p0.bind fun a7=>(Jn σ a7.block (a7.off+0)).bind fun p8=>(Nx k p8 n6 σ).bind fun r9=>(Hu r9.1).bind fun l10=>(FH k k p0 h1 n6 l10.1 l10.2.1 l10.2.2 (0:Int) r9.2).bind fun r20=>if r20.1 = .exit 2 then (FG k n p0 h1 p2 c3 c4 i5 (Ac (x13+(1:Int))) r20.2.2) else if r20.1 = .ret then (mg r20.2.1 fun b21=>some (.ret,[.bool b21],r20.2.2)) else none else none) else (some (.exit 0,[],σ)))
termination_by structural n
theorem PG (k n:Nat) (p0:Option Addr) (h1:Nat) (p2:Option Addr) (c3:Nat) (c4:Nat) (i5:Int) (x13:Int) (σ:Aa):BB k n p0 h1 p2 c3 c4 i5 x13 σ=FG k n p0 h1 p2 c3 c4 i5 x13 σ:=by
 induction n generalizing p0 h1 p2 c3 c4 i5 x13 σ with
 | zero=>simp only[BB,Ab]; rfl
 | succ n ih=>rw[G0,F9,FG]; simp only[Jl,DB,C5,GQ,Kh,ih,AW,AP,Ba,AY,AZ,Bc,Bb,AV,Be,Ao,Az,Bf,Ag,Ar,Aq,Ak]
noncomputable def Js (k:Nat) (x0:Option Addr) (σ:Aa):Option (Value × Aa):=match k with
 | 0=>none
 | k+1=>(fP x0 fun x0=>fL σ fun σ=>CA σ (.cells [.int .i64 (0:Int),.int .i64 (0:Int)] 120 true) fun h1 s2=>(Gg k x0 s2).bind fun r3=>(Hu r3.1).bind fun l4=>(FG k k x0 h1 l4.1 l4.2.1 l4.2.2 ((l4.2.1:Nat):Int) (0:Int) r3.2).bind fun r22=>if r22.1 = .exit 0 then ((EX k x0 r22.2.2).bind fun r23=>(Z9 r23.1).bind fun q24=>if q24.length=2 then q24.head?.bind fun v25=>bU v25 fun n26 n27=>q24.tail.head?.bind fun v28=>(Ed v28).bind fun b29=>To r23.2 h1 0 [.int .i64 n26,.int .i64 n27] fun s30=>(((VI s30 h1 0 2).bind fun v31=>some (.agg v31.toArray)).bind fun v32=>some [v32,.bool b29]).bind fun vs33=>some (Qw vs33,s30) else none) else if r22.1 = .ret then (mg r22.2.1 fun b34=>(((VI r22.2.2 h1 0 2).bind fun v35=>some (.agg v35.toArray)).bind fun v36=>some [v36,.bool b34]).bind fun vs37=>some (Qw vs37,r22.2.2)) else none)
theorem RF (k:Nat) (x0:Option Addr) (σ:Aa):CC k x0 σ=Js k x0 σ:=by
 cases k with
 | zero=>simp only[CC,Ab]; rfl
 | succ k=>rw[KW,IZ,Js]; simp only[Jl,DB,C5,GQ,Kh,PG,AW,AP,Ba,AY,AZ,Bc,Bb,AV,Be,Ao,Az,Bf,Ag,Ar,Aq,Ak]
noncomputable def Lq (k:Nat) (x1:Option Addr) (x2:Int) (σ:Aa):Option (Value × Aa):=match k with
 | 0=>none
 | k+1=>(fP x1 fun x1=>fI x2 fun x2=>fL σ fun σ=>CA σ (.cells [] 154 true) fun h1 s2=>x1.bind fun a3=>(KN k (some ⟨a3.block,a3.off+3,none⟩) x2 s2).bind fun r4=>(Ed r4.1).bind fun b5=>(bif b5 then (some (.normal,[],r4.2)) else (bif decide (x2>(8:Int)) then (x1.bind fun a6=>(Gh k x1 (some ⟨a6.block,a6.off+5,none⟩) x2 r4.2).bind fun r7=>Wv r7.1 fun n8 b9=>some (.ret,[.int .i64 n8,.bool b9],r7.2)) else ((Js k x1 r4.2).bind fun r10=>(Z9 r10.1).bind fun q11=>if q11.length=2 then q11.head?.bind fun v12=>bU v12 fun n13 n14=>q11.tail.head?.bind fun v15=>(Ed v15).bind fun b16=>CA r10.2 (.cells [.int .i64 (0:Int),.int .i64 (0:Int)] 120 true) fun h17 s18=>To s18 h17 0 [.int .i64 n13,.int .i64 n14] fun s19=>bif !b16 then (some (.ret,[.int .i64 (0:Int),.bool false],s19)) else ((Ai .i64 s19 h17 0).bind fun n20=>(Ai .i64 s19 h17 (0+1)).bind fun n21=>x1.bind fun a22=>To s19 a22.block (a22.off+3) [.int .i64 n20,.int .i64 n21] fun s23=>some (.normal,[],s23)) else none)):Option Aw).bind fun r24=>if r24.1 = .normal then (x1.bind fun a25=>(JW k (some ⟨a25.block,a25.off+3,none⟩) x2 r24.2.2).bind fun r26=>(BE .i64 r26.1).bind fun n27=>fI n27 fun y28=>fB true fun y29=>some (.tuple #[.int .i64 y28,.bool y29],r26.2)) else if r24.1 = .ret then (cl r24.2.1 fun n30 b31=>fI n30 fun y32=>fB b31 fun y33=>some (.tuple #[.int .i64 y32,.bool y33],r24.2.2)) else none)
theorem Ue (k:Nat) (x1:Option Addr) (x2:Int) (σ:Aa):CT k x1 x2 σ=Lq k x1 x2 σ:=by
 cases k with
 | zero=>simp only[CT,Ab]; rfl
 | succ k=>rw[Nd,Lf,Lq]; simp only[KU,QI,PH,RF,AW,AP,Ba,AY,AZ,Bc,Bb,AV,Be,Ao,Az,Bf,Ag,Ar,Aq,Ak]
theorem TA (k:Nat) (x1:Option Addr) (x2:Int) (σ:Aa):fn P (XK Kn.b) H k 217 [.agg #[],.pointer x1,.int .i64 x2] σ=CT k x1 x2 σ:=by
 simp only[CT,Ab]
noncomputable def Oz (k:Nat) (n:FuncId) (l:List Value) (σ:Aa):Option (Value × Aa):=
 if n=99 then (match l with
  | [.pointer y1,.int .i64 y2]=>IF k y1 y2 σ
  | l=>fn P (XK Kn.b) H k 99 l σ) else
 if n=199 then (match l with
  | [.agg ⟨[]⟩,.pointer y1,.int .i64 y2]=>Lp k y1 y2 σ
  | l=>fn P (XK Kn.b) H k 199 l σ) else
 if n=204 then (match l with
  | [.agg ⟨[]⟩,.pointer y1,.int .i64 y2]=>Mi k y1 y2 σ
  | l=>fn P (XK Kn.b) H k 204 l σ) else
 if n=212 then (match l with
  | [.agg ⟨[]⟩,.pointer y1,.int .i64 y2]=>Ml k y1 y2 σ
  | l=>fn P (XK Kn.b) H k 212 l σ) else
 if n=213 then (match l with
  | [.agg ⟨[]⟩,.pointer y1,.int .i64 y2]=>Mj k y1 y2 σ
  | l=>fn P (XK Kn.b) H k 213 l σ) else
 if n=217 then (match l with
  | [.agg ⟨[]⟩,.pointer y1,.int .i64 y2]=>Lq k y1 y2 σ
  | l=>fn P (XK Kn.b) H k 217 l σ) else
 fn P (XK Kn.b) H k n l σ
theorem ZU (k:Nat) (n:FuncId) (l:List Value) (σ:Aa):fn P (XK Kn.b) H k n l σ=Oz k n l σ:=by
 unfold Oz
 split
 ·rename_i hn; subst hn
  split
  ·exact (Q7 k _ _ σ).trans (Rm k _ _ σ)
  ·rfl
 split
 ·rename_i hn; subst hn
  split
  ·exact (T9 k _ _ σ).trans (Ud k _ _ σ)
  ·rfl
 split
 ·rename_i hn; subst hn
  split
  ·exact (Ub k _ _ σ).trans (Vo k _ _ σ)
  ·rfl
 split
 ·rename_i hn; subst hn
  split
  ·exact (Uf k _ _ σ).trans (Vq k _ _ σ)
  ·rfl
 split
 ·rename_i hn; subst hn
  split
  ·exact (Uc k _ _ σ).trans (Vp k _ _ σ)
  ·rfl
 split
 ·rename_i hn; subst hn
  split
  ·exact (TA k _ _ σ).trans (Ue k _ _ σ)
  ·rfl
 rfl
noncomputable def Rx (k:Nat) (f:Value) (args:List Value) (σ:Aa):Option (Value × Aa):=match f with
 | .func (.func n) first cap=>Oz k n (first.toList++args++cap.toList) σ
 | .func (.method nm) first _=>(match first.toList++args with
   | .iface t v::rest=>(SS P t nm).bind fun n=>Oz k n (v::rest) σ
   | _=>none)
 | _=>none
theorem ZV (k:Nat) (f:Value) (args:List Value) (σ:Aa):Ci k f args σ=Rx k f args σ:=by
 simp only[Ci,Ab]
 unfold Ow Rx
 simp only[ZU]
 rfl
noncomputable def Br (k:Nat) (x0:Option Addr) (x1_0:Int) (x1_1:Int) (x1_2:Int) (σ:Aa):Option (Value × Aa):=match k with
 | 0=>none
 | k+1=>(fP x0 fun x0=>fI x1_0 fun x1_0=>fI x1_1 fun x1_1=>fI x1_2 fun x1_2=>fL σ fun σ=>CA σ (.cells [.int .i64 x1_0,.int .i64 x1_1,.int .i64 x1_2] 33 true) fun h1 s2=>(Jt k x0 s2).bind fun r3=>(Ed r3.1).bind fun b4=>bif !b4 then (fI (0:Int) fun y5=>fI (5:Int) fun y6=>some (.tuple #[.int .i64 y5,.int .i64 y6],r3.2)) else ((Ai .i64 r3.2 h1 0).bind fun n7=>(Ai .i64 r3.2 h1 (0+1)).bind fun n8=>(Ai .i64 r3.2 h1 (0+1+1)).bind fun n9=>(Nz k n7 n8 n9 r3.2).bind fun r10=>(Ed r10.1).bind fun b11=>bif !b11 then (fI (0:Int) fun y12=>fI (2:Int) fun y13=>some (.tuple #[.int .i64 y12,.int .i64 y13],r10.2)) else ((Ai .i64 r10.2 h1 0).bind fun n14=>(Ai .i64 r10.2 h1 (0+1)).bind fun n15=>(Ai .i64 r10.2 h1 (0+1+1)).bind fun n16=>(N0 k n14 n15 n16 r10.2).bind fun r17=>(BE .i64 r17.1).bind fun n18=>(KO k  r17.2).bind fun r19=>(Hu r19.1).bind fun l20=>x0.bind fun a21=>(Ai .i64 r19.2 a21.block (a21.off+2)).bind fun n22=>if 0≤n22∧n22<(l20.2.1:Nat) then l20.1.bind fun a23=>(Gt r19.2 a23.block (a23.off+n22.toNat*1)).bind fun v24=>nA v24 fun v25=>(bif decide (n18>(32:Int)) then (some (.normal,[.func (.func 99) #[] #[]],r19.2)) else (some (.normal,[(.func (.method "dustcart/alloc.place") #[v25] #[])],r19.2)):Option Aw).bind fun r26=>if r26.1 = .normal then (rK r26.2.1 fun f27=>x0.bind fun a28=>(Jn r26.2.2 a28.block a28.off).bind fun p29=>(Ai .i64 r26.2.2 a28.block (a28.off+1)).bind fun n30=>(Ai .i64 r26.2.2 a28.block (a28.off+1+1)).bind fun n31=>(Ai .i64 r26.2.2 a28.block (a28.off+1+1+1)).bind fun n32=>(Ai .i64 r26.2.2 a28.block (a28.off+1+1+1+1)).bind fun n33=>(Ai .i64 r26.2.2 a28.block (a28.off+1+1+1+1+1)).bind fun n34=>(Ai .i64 r26.2.2 a28.block (a28.off+1+1+1+1+1+1)).bind fun n35=>CA r26.2.2 (.cells [.pointer none,.int .i64 (0:Int),.int .i64 (0:Int),.int .i64 (0:Int),.int .i64 (0:Int),.int .i64 (0:Int),.int .i64 (0:Int)] 122 true) fun h36 s37=>To s37 h36 0 [.pointer p29,.int .i64 n30,.int .i64 n31,.int .i64 n32,.int .i64 n33,.int .i64 n34,.int .i64 n35] fun s38=>(Rx k f27 [.pointer x0,.int .i64 n18] s38).bind fun r39=>Wv r39.1 fun n40 b41=>bif !b41 then (fI (0:Int) fun y42=>fI (6:Int) fun y43=>some (.tuple #[.int .i64 y42,.int .i64 y43],r39.2)) else (x0.bind fun a44=>(Jn r39.2 a44.block (a44.off+0)).bind fun p45=>if (64:Int)=0 then none else (JZ k p45 (Ac (n40.tdiv (64:Int))) r39.2).bind fun r46=>(BE .i64 r46.1).bind fun n47=>x0.bind fun a48=>(Ai .i64 r46.2 a48.block (a48.off+1)).bind fun n49=>(bif n47 == n49 then (x0.bind fun a50=>(Jn r46.2 a50.block (a50.off+0)).bind fun p51=>(Ai .i64 r46.2 h1 0).bind fun n52=>(Ai .i64 r46.2 h1 (0+1)).bind fun n53=>(Ai .i64 r46.2 h1 (0+1+1)).bind fun n54=>(JY k p51 n40 n52 n53 n54 r46.2).bind fun r55=>Gp r55.1 fun n56 n57=>some (.normal,[.int .i64 n57],r55.2)) else (some (.normal,[.int .i64 (5:Int)],r46.2)):Option Aw).bind fun r58=>if r58.1 = .normal then (Sw r58.2.1 fun n59=>bif n59 != (0:Int) then ((Jn r58.2.2 h36 0).bind fun p60=>(Ai .i64 r58.2.2 h36 (0+1)).bind fun n61=>(Ai .i64 r58.2.2 h36 (0+1+1)).bind fun n62=>(Ai .i64 r58.2.2 h36 (0+1+1+1)).bind fun n63=>(Ai .i64 r58.2.2 h36 (0+1+1+1+1)).bind fun n64=>(Ai .i64 r58.2.2 h36 (0+1+1+1+1+1)).bind fun n65=>(Ai .i64 r58.2.2 h36 (0+1+1+1+1+1+1)).bind fun n66=>x0.bind fun a67=>To r58.2.2 a67.block a67.off [.pointer p60,.int .i64 n61,.int .i64 n62,.int .i64 n63,.int .i64 n64,.int .i64 n65,.int .i64 n66] fun s68=>fI (0:Int) fun y69=>fI (6:Int) fun y70=>some (.tuple #[.int .i64 y69,.int .i64 y70],s68)) else (fI n40 fun y71=>fI (0:Int) fun y72=>some (.tuple #[.int .i64 y71,.int .i64 y72],r58.2.2))) else none)) else none else none)))
theorem Rl (k:Nat) (x0:Option Addr) (x1_0:Int) (x1_1:Int) (x1_2:Int) (σ:Aa):AN k x0 x1_0 x1_1 x1_2 σ=Br k x0 x1_0 x1_1 x1_2 σ:=by
 cases k with
 | zero=>simp only[AN,Ab]; rfl
 | succ k=>rw[Kr,Iu,Br]; simp only[Ru,Rs,Mc,Qk,RH,QJ,ZV,AW,AP,Ba,AY,AZ,Bc,Bb,AV,Be,Ao,Az,Bf,Ag,Ar,Aq,Ak]
noncomputable def Re (k:Nat) (x0:Option Addr) (x1:Int) (x2:Int) (σ:Aa):Option (Value × Aa):=match k with
 | 0=>none
 | k+1=>(fP x0 fun x0=>fI x1 fun x1=>fI x2 fun x2=>fL σ fun σ=>(Em k x0 σ).bind fun r1=>(BE .i64 r1.1).bind fun n2=>(bif n2 == (0:Int) then some (true,r1.2) else some (decide (x1<(0:Int)),r1.2)).bind fun r3=>(bif r3.1 then some (true,r3.2) else some (decide (x1≥(8:Int)),r3.2)).bind fun r4=>(bif r4.1 then some (true,r4.2) else some (decide (x2<(0:Int)),r4.2)).bind fun r5=>(bif r5.1 then some (true,r5.2) else (KO k  r5.2).bind fun r6=>(Hu r6.1).bind fun l7=>some (decide (x2≥((l7.2.1:Nat):Int)),r6.2)).bind fun r8=>bif r8.1 then (fI (1:Int) fun y9=>some (.tuple #[.pointer none,.int .i64 y9],r8.2)) else (CA r8.2 (.cells [.pointer x0,.int .i64 x1,.int .i64 x2,.int .i64 (0:Int),.int .i64 (0:Int),.int .i64 (0:Int),.int .i64 (0:Int)] 122 true) fun h10 s11=>fI (0:Int) fun y12=>some (.tuple #[.pointer (some ⟨h10,0,none⟩),.int .i64 y12],s11)))
theorem dO (k:Nat) (x0:Option Addr) (x1:Int) (x2:Int) (σ:Aa):GK k x0 x1 x2 σ=Re k x0 x1 x2 σ:=by
 cases k with
 | zero=>simp only[GK,Ab]; rfl
 | succ k=>rw[Ul,Uh,Re]; simp only[CW,QJ,AW,AP,Ba,AY,AZ,Bc,Bb,AV,Be,Ao,Az,Bf,Ag,Ar,Aq,Ak]
noncomputable def On (k:Nat) (x0:Option Addr) (x1:Int) (σ:Aa):Option (Value × Aa):=match k with
 | 0=>none
 | k+1=>(fP x0 fun x0=>fI x1 fun x1=>fL σ fun σ=>(Jv k x0 x1 σ).bind fun r1=>(Ed r1.1).bind fun b2=>bif !b2 then (fI (-1:Int) fun y3=>some (.int .i64 y3,r1.2)) else ((IH k x0 x1 r1.2).bind fun r4=>(BE .i64 r4.1).bind fun n5=>fI n5 fun y6=>some (.int .i64 y6,r4.2)))
theorem Xv (k:Nat) (x0:Option Addr) (x1:Int) (σ:Aa):FR k x0 x1 σ=On k x0 x1 σ:=by
 cases k with
 | zero=>simp only[FR,Ab]; rfl
 | succ k=>rw[Pu,NX,On]; simp only[P0,HP,AW,AP,Ba,AY,AZ,Bc,Bb,AV,Be,Ao,Az,Bf,Ag,Ar,Aq,Ak]
noncomputable def Pf (k:Nat) (x0:Option Addr) (x1:Int) (σ:Aa):Option (Value × Aa):=match k with
 | 0=>none
 | k+1=>(fP x0 fun x0=>fI x1 fun x1=>fL σ fun σ=>(DH k x0 σ).bind fun r1=>(Ed r1.1).bind fun b2=>(bif b2 then some (decide (x1≥(0:Int)),r1.2) else some (false,r1.2)).bind fun r3=>(bif r3.1 then if (2:Int)=0 then none else some ((x1.tmod (2:Int)) == (0:Int),r3.2) else some (false,r3.2)).bind fun r4=>(bif r4.1 then x0.bind fun a5=>(Jn r4.2 a5.block (a5.off+2)).bind fun p6=>if (2:Int)=0 then none else (On k p6 (Ac (x1.tdiv (2:Int))) r4.2).bind fun r7=>(BE .i64 r7.1).bind fun n8=>some (n8 == (1:Int),r7.2) else some (false,r4.2)).bind fun r9=>fB r9.1 fun y10=>some (.bool y10,r9.2))
theorem Yd (k:Nat) (x0:Option Addr) (x1:Int) (σ:Aa):G2 k x0 x1 σ=Pf k x0 x1 σ:=by
 cases k with
 | zero=>simp only[G2,Ab]; rfl
 | succ k=>rw[PZ,OZ,Pf]; simp only[DV,Xv,AW,AP,Ba,AY,AZ,Bc,Bb,AV,Be,Ao,Az,Bf,Ag,Ar,Aq,Ak]
noncomputable def Mm (k:Nat) (x0:Option Addr) (x1:Int) (σ:Aa):Option (Value × Aa):=match k with
 | 0=>none
 | k+1=>(fP x0 fun x0=>fI x1 fun x1=>fL σ fun σ=>(DH k x0 σ).bind fun r1=>(Ed r1.1).bind fun b2=>bif !b2 then (fI (5:Int) fun y3=>some (.int .i64 y3,r1.2)) else ((Pf k x0 x1 r1.2).bind fun r4=>(Ed r4.1).bind fun b5=>bif !b5 then (fI (4:Int) fun y6=>some (.int .i64 y6,r4.2)) else (fI (0:Int) fun y7=>some (.int .i64 y7,r4.2))))
theorem Vy (k:Nat) (x0:Option Addr) (x1:Int) (σ:Aa):EK k x0 x1 σ=Mm k x0 x1 σ:=by
 cases k with
 | zero=>simp only[EK,Ab]; rfl
 | succ k=>rw[NA,LS,Mm]; simp only[DV,Yd,AW,AP,Ba,AY,AZ,Bc,Bb,AV,Be,Ao,Az,Bf,Ag,Ar,Aq,Ak]
noncomputable def Om (k:Nat) (x0:Option Addr) (x1:Int) (x2:Int) (σ:Aa):Option (Value × Aa):=match k with
 | 0=>none
 | k+1=>(fP x0 fun x0=>fI x1 fun x1=>fI x2 fun x2=>fL σ fun σ=>x0.bind fun a1=>(Eo σ a1.block (a1.off+1)).bind fun l2=>(KF 3 1 (l2.1,l2.2.1,l2.2.2) (some (.int .i64 x1)) (some (.int .i64 (Ac (x1+x2)))) none σ).bind fun l3=>(if l3.2.1=0 then some σ else l3.1.bind fun a5=>Ke σ a5.block a5.off (rep l3.2.1 [.int .i64 (0:Int)])).bind fun s4=>qY s4 fun s4=>some (.tuple #[],s4))
theorem Xc (k:Nat) (x0:Option Addr) (x1:Int) (x2:Int) (σ:Aa):FP k x0 x1 x2 σ=Om k x0 x1 x2 σ:=by
 cases k with
 | zero=>simp only[FP,Ab]; rfl
 | succ k=>rw[Ps,NV,Om]; simp only[AW,AP,Ba,AY,AZ,Bc,Bb,AV,Be,Ao,Az,Bf,Ag,Ar,Aq,Ak]
noncomputable def Oj (k:Nat) (x0:Option Addr) (x1:Int) (σ:Aa):Option (Value × Aa):=match k with
 | 0=>none
 | k+1=>(fP x0 fun x0=>fI x1 fun x1=>fL σ fun σ=>(Mm k x0 x1 σ).bind fun r1=>(BE .i64 r1.1).bind fun n2=>bif n2 != (0:Int) then (fI n2 fun y3=>some (.int .i64 y3,r1.2)) else (x0.bind fun a4=>(oS r1.2 a4.block (a4.off+4)).bind fun m5=>x0.bind fun a6=>(Eo r1.2 a6.block (a6.off+1)).bind fun l7=>if 0≤x1∧x1<(l7.2.1:Nat) then l7.1.bind fun a8=>(Ai .i64 r1.2 a8.block (a8.off+x1.toNat*1)).bind fun n9=>(dY r1.2 m5).bind fun es10=>qY (hU r1.2 m5 (Mg n9 es10)) fun s11=>x0.bind fun a12=>(Jn s11 a12.block (a12.off+2)).bind fun p13=>if (2:Int)=0 then none else (IG k p13 (Ac (x1.tdiv (2:Int))) (0:Int) s11).bind fun r14=>(BE .i64 r14.1).bind fun n15=>x0.bind fun a16=>(Jn r14.2 a16.block (a16.off+3)).bind fun p17=>if (2:Int)=0 then none else (IG k p17 (Ac (x1.tdiv (2:Int))) (0:Int) r14.2).bind fun r18=>(BE .i64 r18.1).bind fun n19=>(GO k x0 x1 r18.2).bind fun r20=>(BE .i64 r20.1).bind fun n21=>(Om k x0 x1 n21 r20.2).bind fun r22=>TT r22.1 (fI (0:Int) fun y23=>some (.int .i64 y23,r22.2)) else none))
theorem Xa (k:Nat) (x0:Option Addr) (x1:Int) (σ:Aa):DF k x0 x1 σ=Oj k x0 x1 σ:=by
 cases k with
 | zero=>simp only[DF,Ab]; rfl
 | succ k=>rw[Pn,NQ,Oj]; simp only[Vy,Ft,Rh,Xc,AW,AP,Ba,AY,AZ,Bc,Bb,AV,Be,Ao,Az,Bf,Ag,Ar,Aq,Ak]
noncomputable def Rz (k:Nat)  (σ:Aa):Option (Value × Aa):=match k with
 | 0=>none
 | k+1=>(fL σ fun σ=>(Td k (4:Int) σ).bind fun r1=>TP r1.1 fun p2 n3=>(Re k p2 (0:Int) (0:Int) r1.2).bind fun r4=>TP r4.1 fun p5 n6=>(UT P 42 (.pointer p5) (.pointer none)).bind fun e7=>(bif e7 then some (true,r4.2) else some (n6 != (0:Int),r4.2)).bind fun r8=>bif r8.1 then (fB false fun y9=>some (.bool y9,r8.2)) else ((Br k p5 (0:Int) (4:Int) (0:Int) r8.2).bind fun r10=>Gp r10.1 fun n11 n12=>(Br k p5 (0:Int) (0:Int) (0:Int) r10.2).bind fun r13=>Gp r13.1 fun n14 n15=>(Br k p5 (0:Int) (4:Int) (0:Int) r13.2).bind fun r16=>Gp r16.1 fun n17 n18=>(Oj k p2 (64:Int) r16.2).bind fun r19=>(BE .i64 r19.1).bind fun n20=>(Br k p5 (0:Int) (2:Int) (0:Int) r19.2).bind fun r21=>Gp r21.1 fun n22 n23=>(Br k p5 (0:Int) (2:Int) (0:Int) r21.2).bind fun r24=>Gp r24.1 fun n25 n26=>(bif n11 != (64:Int) then some (true,r24.2) else some (n12 != (0:Int),r24.2)).bind fun r27=>(bif r27.1 then some (true,r27.2) else some (n14 != (70:Int),r27.2)).bind fun r28=>(bif r28.1 then some (true,r28.2) else some (n17 != (72:Int),r28.2)).bind fun r29=>(bif r29.1 then some (true,r29.2) else some (n22 != (64:Int),r29.2)).bind fun r30=>(bif r30.1 then some (true,r30.2) else some (n25 != (78:Int),r30.2)).bind fun r31=>bif r31.1 then (fB false fun y32=>some (.bool y32,r31.2)) else ((Td k (4:Int) r31.2).bind fun r33=>TP r33.1 fun p34 n35=>(JX k p34 (1:Int) (0:Int) r33.2).bind fun r36=>(BE .i64 r36.1).bind fun n37=>(JY k p34 (72:Int) (0:Int) (6:Int) (0:Int) r36.2).bind fun r38=>Gp r38.1 fun n39 n40=>(Re k p34 (0:Int) (4:Int) r38.2).bind fun r41=>TP r41.1 fun p42 n43=>(Br k p42 (0:Int) (6:Int) (0:Int) r41.2).bind fun r44=>Gp r44.1 fun n45 n46=>(Br k p42 (0:Int) (6:Int) (0:Int) r44.2).bind fun r47=>Gp r47.1 fun n48 n49=>(Br k p42 (0:Int) (30:Int) (0:Int) r47.2).bind fun r50=>Gp r50.1 fun n51 n52=>(Br k p42 (0:Int) (8:Int) (0:Int) r50.2).bind fun r53=>Gp r53.1 fun n54 n55=>(bif n45 == (64:Int) then some (n48 == (80:Int),r53.2) else some (false,r53.2)).bind fun r56=>(bif r56.1 then some (n54 == (128:Int),r56.2) else some (false,r56.2)).bind fun r57=>(bif r57.1 then some (n55 == (0:Int),r57.2) else some (false,r57.2)).bind fun r58=>fB r58.1 fun y59=>some (.bool y59,r58.2))))
theorem aH (k:Nat)  (σ:Aa):Fi k  σ=Rz k  σ:=by
 cases k with
 | zero=>simp only[Fi,Ab]; rfl
 | succ k=>rw[Un,V7,Rz]; simp only[gm,Rl,dO,Mb,Qk,Xa,AW,AP,Ba,AY,AZ,Bc,Bb,AV,Be,Ao,Az,Bf,Ag,Ar,Aq,Ak]
end Go.Proofs.YtlaplcglpnlieaaGreat
