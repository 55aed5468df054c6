/-
 PRINTED BY A PROGRAM OF THIS SESSION'S OWN (gen2.py): the functions that the examples reach, as definitions.
-/
import Derived.Test.YtlaplcglpnlieaaGreatP6
import Derived.Test.YtlaplcglpnlieaaGreatP10
set_option maxRecDepth 100000
set_option linter.unusedVariables false
set_option linter.unusedSimpArgs false
set_option linter.unusedSectionVars false
namespace Go.Proofs.YtlaplcglpnlieaaGreat
open Go Go.AX
local instance sZ:Kn:=⟨false⟩
variable [AK]
noncomputable def Hl (k n:Nat) (p0:Option Addr) (c1:Nat) (c2:Nat) (i3:Int) (i4:Int) (x8:Int) (σ:Aa):Option Ay:=match n with
 | 0=>none
 | n+1=>(fP p0 fun p0=>fN c1 fun c1=>fN c2 fun c2=>fI i3 fun i3=>fI i4 fun i4=>fI x8 fun x8=>fL σ fun σ=>bif decide (x8<i4) then (if 0≤x8∧x8<(c1:Nat) then p0.bind fun a1=>(Ai .i64 σ a1.block (a1.off+x8.toNat*1)).bind fun n2=>bif i3 == n2 then (some (.ret,[.int .i64 x8],σ)) else (Hl k n p0 c1 c2 i3 i4 (Ac (x8+(1:Int))) σ) else none) else (some (.exit 0,[],σ)))
termination_by structural n
theorem T1 (k n:Nat) (p0:Option Addr) (c1:Nat) (c2:Nat) (i3:Int) (i4:Int) (x8:Int) (σ:Aa):DP k n p0 c1 c2 i3 i4 x8 σ=Hl k n p0 c1 c2 i3 i4 x8 σ:=by
 induction n generalizing p0 c1 c2 i3 i4 x8 σ with
 | zero=>simp only[DP,Ab]; rfl
 | succ n ih=>rw[LD,JQ,Hl]; simp only[ih,AZ,AO,Bc,Ba,Bb,Be,Bd,AW,Bf,Ap,Az,Bg,Ah,Ar,Aq,Ak]
noncomputable def Mt (k:Nat) (x0:Option Addr × Nat × Nat) (x1:Int) (σ:Aa):Option (Value × Aa):=match k with
 | 0=>none
 | k+1=>(fS x0 fun x0=>fI x1 fun x1=>fL σ fun σ=>(Hl k k x0.1 x0.2.1 x0.2.2 x1 ((x0.2.1:Nat):Int) (0:Int) σ).bind fun r3=>if r3.1 = .exit 0 then (fI (-1:Int) fun y4=>some (.int .i64 y4,r3.2.2)) else if r3.1 = .ret then (T7 r3.2.1 fun n5=>fI n5 fun y6=>some (.int .i64 y6,r3.2.2)) else none)
theorem VB (k:Nat) (x0:Option Addr × Nat × Nat) (x1:Int) (σ:Aa):FX k x0 x1 σ=Mt k x0 x1 σ:=by
 cases k with
 | zero=>simp only[FX,Ab]; rfl
 | succ k=>rw[NH,Md,Mt]; simp only[T1,AZ,AO,Bc,Ba,Bb,Be,Bd,AW,Bf,Ap,Az,Bg,Ah,Ar,Aq,Ak]
noncomputable def JV (k:Nat) (x0:Option Addr × Nat × Nat) (x1:Int) (σ:Aa):Option (Value × Aa):=match k with
 | 0=>none
 | k+1=>(fS x0 fun x0=>fI x1 fun x1=>fL σ fun σ=>(Mt k (x0.1,x0.2.1,x0.2.2) x1 σ).bind fun r1=>(BF .i64 r1.1).bind fun n2=>fB (decide (n2≥(0:Int))) fun y3=>some (.bool y3,r1.2))
theorem T0 (k:Nat) (x0:Option Addr × Nat × Nat) (x1:Int) (σ:Aa):ED k x0 x1 σ=JV k x0 x1 σ:=by
 cases k with
 | zero=>simp only[ED,Ab]; rfl
 | succ k=>rw[LC,JP,JV]; simp only[VB,AZ,AO,Bc,Ba,Bb,Be,Bd,AW,Bf,Ap,Az,Bg,Ah,Ar,Aq,Ak]
noncomputable def Tu (k:Nat) (x0:Int) (x1:Int) (σ:Aa):Option (Value × Aa):=match k with
 | 0=>none
 | k+1=>(fI x0 fun x0=>fI x1 fun x1=>fL σ fun σ=>(bif decide (x0<(1:Int)) then some (true,σ) else some (decide (x0>(4096:Int)),σ)).bind fun r1=>(bif r1.1 then some (true,r1.2) else CC r1.2 (.cells [.int .i64 (1:Int),.int .i64 (2:Int),.int .i64 (4:Int),.int .i64 (8:Int)] 3 true) fun h2 s3=>(JV k (some ⟨h2,0,none⟩,4,4) x1 s3).bind fun r4=>(DY r4.1).bind fun b5=>some (!b5,r4.2)).bind fun r6=>bif r6.1 then (fI (1:Int) fun y7=>some (.tuple #[.pointer none,.int .i64 y7],r6.2)) else (if (64:Int)=0 then none else if 0≤(Ac ((Ac ((Ac ((Ac (x0*x1))+(64:Int)))-(1:Int))).tdiv (64:Int)))∧(Ac ((Ac ((Ac ((Ac (x0*x1))+(64:Int)))-(1:Int))).tdiv (64:Int)))≤(Ac ((Ac ((Ac ((Ac (x0*x1))+(64:Int)))-(1:Int))).tdiv (64:Int)))∧(Ac ((Ac ((Ac ((Ac (x0*x1))+(64:Int)))-(1:Int))).tdiv (64:Int)))*(8:Nat)≤2 ^ 40∧(Ac ((Ac ((Ac ((Ac (x0*x1))+(64:Int)))-(1:Int))).tdiv (64:Int)))≤2 ^ 40 then CC r6.2 (.cells (rep (Ac ((Ac ((Ac ((Ac (x0*x1))+(64:Int)))-(1:Int))).tdiv (64:Int))).toNat [.int .u64 (0:Int)]) 138 true) fun h8 s9=>CC s9 (.cells [.int .i64 x0,.int .i64 x1,.slice (some ⟨h8,0,none⟩) ((Ac ((Ac ((Ac ((Ac (x0*x1))+(64:Int)))-(1:Int))).tdiv (64:Int))).toNat) ((Ac ((Ac ((Ac ((Ac (x0*x1))+(64:Int)))-(1:Int))).tdiv (64:Int))).toNat)] 136 true) fun h10 s11=>fI (0:Int) fun y12=>some (.tuple #[.pointer (some ⟨h10,0,none⟩),.int .i64 y12],s11) else none))
theorem ia (k:Nat) (x0:Int) (x1:Int) (σ:Aa):Me k x0 x1 σ=Tu k x0 x1 σ:=by
 cases k with
 | zero=>simp only[Me,Ab]; rfl
 | succ k=>rw[VP,Wi,Tu]; simp only[T0,AZ,AO,Bc,Ba,Bb,Be,Bd,AW,Bf,Ap,Az,Bg,Ah,Ar,Aq,Ak]
noncomputable def Tp (k:Nat) (x0:Int) (σ:Aa):Option (Value × Aa):=match k with
 | 0=>none
 | k+1=>(fI x0 fun x0=>fL σ fun σ=>(bif decide (x0<(2:Int)) then some (true,σ) else some (decide (x0>(64:Int)),σ)).bind fun r1=>bif r1.1 then (fI (1:Int) fun y2=>some (.tuple #[.pointer none,.int .i64 y2],r1.2)) else (if 0≤x0∧x0≤x0∧x0*(16:Nat)≤2 ^ 40∧x0≤2 ^ 40 then CC r1.2 (.cells (rep x0.toNat [.int .i64 (0:Int),.int .i64 (0:Int)]) 104 true) fun h3 s4=>if 0≤(Ac (x0*(64:Int)))∧(Ac (x0*(64:Int)))≤(Ac (x0*(64:Int)))∧(Ac (x0*(64:Int)))*(8:Nat)≤2 ^ 40∧(Ac (x0*(64:Int)))≤2 ^ 40 then CC s4 (.cells (rep (Ac (x0*(64:Int))).toNat [.int .i64 (0:Int)]) 3 true) fun h5 s6=>CC s6 (.map []) fun h7 s8=>CC s8 (.map []) fun h9 s10=>CC s10 (.cells [.slice (some ⟨h3,0,none⟩) x0.toNat x0.toNat,.slice (some ⟨h5,0,none⟩) ((Ac (x0*(64:Int))).toNat) ((Ac (x0*(64:Int))).toNat),.pointer none,.pointer none,.map (some h7),.map (some h9),.int .i64 (0:Int)] 94 true) fun h11 s12=>(Ee s12 h11 (0+1)).bind fun l13=>if (2:Int)=0 then none else (Tu k (Ac (((l13.2.1:Nat):Int).tdiv (2:Int))) (1:Int) s12).bind fun r14=>Uf r14.1 fun p15 n16=>VC r14.2 h11 (0+2) (.pointer p15) fun s17=>(Ee s17 h11 (0+1)).bind fun l18=>if (2:Int)=0 then none else (Tu k (Ac (((l18.2.1:Nat):Int).tdiv (2:Int))) (1:Int) s17).bind fun r19=>Uf r19.1 fun p20 n21=>VC r19.2 h11 (0+3) (.pointer p20) fun s22=>fI (0:Int) fun y23=>some (.tuple #[.pointer (some ⟨h11,0,none⟩),.int .i64 y23],s22) else none else none))
theorem gw (k:Nat) (x0:Int) (σ:Aa):G7 k x0 σ=Tp k x0 σ:=by
 cases k with
 | zero=>simp only[G7,Ab]; rfl
 | succ k=>rw[Rw,SN,Tp]; simp only[ia,AZ,AO,Bc,Ba,Bb,Be,Bd,AW,Bf,Ap,Az,Bg,Ah,Ar,Aq,Ak]
noncomputable def N0 (k:Nat) (x0_0:Int) (x0_1:Int) (x0_2:Int) (σ:Aa):Option (Value × Aa):=match k with
 | 0=>none
 | k+1=>(fI x0_0 fun x0_0=>fI x0_1 fun x0_1=>fI x0_2 fun x0_2=>fL σ fun σ=>CC σ (.cells [.int .i64 x0_0,.int .i64 x0_1,.int .i64 x0_2] 33 true) fun h1 s2=>(Ai .i64 s2 h1 (0+0)).bind fun n3=>(bif decide (n3≥(0:Int)) then (Ai .i64 s2 h1 (0+0)).bind fun n4=>some (decide (n4≤(15:Int)),s2) else some (false,s2)).bind fun r5=>(bif r5.1 then (Ai .i64 r5.2 h1 (0+1)).bind fun n6=>some (decide (n6≥(0:Int)),r5.2) else some (false,r5.2)).bind fun r7=>(bif r7.1 then (Ai .i64 r7.2 h1 (0+1)).bind fun n8=>some (decide (n8≤(200:Int)),r7.2) else some (false,r7.2)).bind fun r9=>(bif r9.1 then (Ai .i64 r9.2 h1 (0+2)).bind fun n10=>some (decide (n10≥(0:Int)),r9.2) else some (false,r9.2)).bind fun r11=>(bif r11.1 then (Ai .i64 r11.2 h1 (0+2)).bind fun n12=>some (decide (n12≤(3:Int)),r11.2) else some (false,r11.2)).bind fun r13=>(bif r13.1 then (Ai .i64 r13.2 h1 (0+2)).bind fun n14=>(bif n14 != (1:Int) then some (true,r13.2) else (Ai .i64 r13.2 h1 (0+0)).bind fun n15=>some (decide (n15≥(1:Int)),r13.2)).bind fun r16=>some (r16.1,r16.2) else some (false,r13.2)).bind fun r17=>(bif r17.1 then (Ai .i64 r17.2 h1 (0+2)).bind fun n18=>(bif n18 != (2:Int) then some (true,r17.2) else (Ai .i64 r17.2 h1 (0+0)).bind fun n19=>some (decide (n19≥(2:Int)),r17.2)).bind fun r20=>some (r20.1,r20.2) else some (false,r17.2)).bind fun r21=>fB r21.1 fun y22=>some (.bool y22,r21.2))
theorem R6 (k:Nat) (x0_0:Int) (x0_1:Int) (x0_2:Int) (σ:Aa):Fo k x0_0 x0_1 x0_2 σ=N0 k x0_0 x0_1 x0_2 σ:=by
 cases k with
 | zero=>simp only[Fo,Ab]; rfl
 | succ k=>rw[TC,SO,N0]; simp only[AZ,AO,Bc,Ba,Bb,Be,Bd,AW,Bf,Ap,Az,Bg,Ah,Ar,Aq,Ak]
noncomputable def N1 (k:Nat) (x0_0:Int) (x0_1:Int) (x0_2:Int) (σ:Aa):Option (Value × Aa):=match k with
 | 0=>none
 | k+1=>(fI x0_0 fun x0_0=>fI x0_1 fun x0_1=>fI x0_2 fun x0_2=>fL σ fun σ=>CC σ (.cells [.int .i64 x0_0,.int .i64 x0_1,.int .i64 x0_2] 33 true) fun h1 s2=>(Ai .i64 s2 h1 0).bind fun n3=>(Ai .i64 s2 h1 (0+1)).bind fun n4=>(Ai .i64 s2 h1 (0+1+1)).bind fun n5=>(N0 k n3 n4 n5 s2).bind fun r6=>(DY r6.1).bind fun b7=>bif !b7 then (fI (0:Int) fun y8=>some (.int .i64 y8,r6.2)) else ((Ai .i64 r6.2 h1 (0+0)).bind fun n9=>(Ai .i64 r6.2 h1 (0+1)).bind fun n10=>if (2:Int)=0 then none else fI (Ac ((Ac ((Ac ((Ac ((Ac ((2:Int)+n9))+n10))+(1:Int))).tdiv (2:Int)))*(2:Int))) fun y11=>some (.int .i64 y11,r6.2)))
theorem R8 (k:Nat) (x0_0:Int) (x0_1:Int) (x0_2:Int) (σ:Aa):Er k x0_0 x0_1 x0_2 σ=N1 k x0_0 x0_1 x0_2 σ:=by
 cases k with
 | zero=>simp only[Er,Ab]; rfl
 | succ k=>rw[TD,SP,N1]; simp only[R6,AZ,AO,Bc,Ba,Bb,Be,Bd,AW,Bf,Ap,Az,Bg,Ah,Ar,Aq,Ak]
noncomputable def DH (k:Nat) (x0:Option Addr) (σ:Aa):Option (Value × Aa):=match k with
 | 0=>none
 | k+1=>(fP x0 fun x0=>fL σ fun σ=>(SE P 25 (.pointer x0) (.pointer none)).bind fun e1=>(bif !e1 then x0.bind fun a2=>(Ee σ a2.block (a2.off+0)).bind fun l3=>some (decide (((l3.2.1:Nat):Int)>(0:Int)),σ) else some (false,σ)).bind fun r4=>fB r4.1 fun y5=>some (.bool y5,r4.2))
theorem DU (k:Nat) (x0:Option Addr) (σ:Aa):AE k x0 σ=DH k x0 σ:=by
 cases k with
 | zero=>simp only[AE,Ab]; rfl
 | succ k=>rw[Pt,NT,DH]; simp only[AZ,AO,Bc,Ba,Bb,Be,Bd,AW,Bf,Ap,Az,Bg,Ah,Ar,Aq,Ak]
noncomputable def Ek (k:Nat) (x0:Option Addr) (σ:Aa):Option (Value × Aa):=match k with
 | 0=>none
 | k+1=>(fP x0 fun x0=>fL σ fun σ=>(DH k x0 σ).bind fun r1=>(DY r1.1).bind fun b2=>bif !b2 then (fI (0:Int) fun y3=>some (.int .i64 y3,r1.2)) else (x0.bind fun a4=>(Ee r1.2 a4.block (a4.off+0)).bind fun l5=>fI ((l5.2.1:Nat):Int) fun y6=>some (.int .i64 y6,r1.2)))
theorem CY (k:Nat) (x0:Option Addr) (σ:Aa):AU k x0 σ=Ek k x0 σ:=by
 cases k with
 | zero=>simp only[AU,Ab]; rfl
 | succ k=>rw[NB,LY,Ek]; simp only[DU,AZ,AO,Bc,Ba,Bb,Be,Bd,AW,Bf,Ap,Az,Bg,Ah,Ar,Aq,Ak]
noncomputable def Kf (k:Nat) (x0:Option Addr) (x1:Int) (σ:Aa):Option (Value × Aa):=match k with
 | 0=>none
 | k+1=>(fP x0 fun x0=>fI x1 fun x1=>fL σ fun σ=>(bif decide (x1<(0:Int)) then some (true,σ) else (Ek k x0 σ).bind fun r1=>(BF .i64 r1.1).bind fun n2=>some (decide (x1≥n2),r1.2)).bind fun r3=>bif r3.1 then (fI (-1:Int) fun y4=>some (.int .i64 y4,r3.2)) else (x0.bind fun a5=>(Ee r3.2 a5.block (a5.off+0)).bind fun l6=>if 0≤x1∧x1<(l6.2.1:Nat) then l6.1.bind fun a7=>(Ai .i64 r3.2 a7.block (a7.off+x1.toNat*2+1)).bind fun n8=>fI n8 fun y9=>some (.int .i64 y9,r3.2) else none))
theorem Mg (k:Nat) (x0:Option Addr) (x1:Int) (σ:Aa):Co k x0 x1 σ=Kf k x0 x1 σ:=by
 cases k with
 | zero=>simp only[Co,Ab]; rfl
 | succ k=>rw[K7,JX,Kf]; simp only[CY,AZ,AO,Bc,Ba,Bb,Be,Bd,AW,Bf,Ap,Az,Bg,Ah,Ar,Aq,Ak]
noncomputable def I0 (k n:Nat) (p0:Option Addr) (i1:Int) (x5:Int) (σ:Aa):Option Ay:=match n with
 | 0=>none
 | n+1=>(fP p0 fun p0=>fI i1 fun i1=>fI x5 fun x5=>fL σ fun σ=>p0.bind fun a1=>(Ee σ a1.block (a1.off+0)).bind fun l2=>if 0≤i1∧i1<(l2.2.1:Nat) then l2.1.bind fun a3=>(Ai .i64 σ a3.block (a3.off+i1.toNat*2+0)).bind fun n4=>(bif n4 == (2:Int) then p0.bind fun a5=>(Ee σ a5.block (a5.off+0)).bind fun l6=>some (decide ((Ac (i1+x5))<((l6.2.1:Nat):Int)),σ) else some (false,σ)).bind fun r7=>(bif r7.1 then p0.bind fun a8=>(Ee r7.2 a8.block (a8.off+0)).bind fun l9=>if 0≤(Ac (i1+x5))∧(Ac (i1+x5))<(l9.2.1:Nat) then l9.1.bind fun a10=>(Ai .i64 r7.2 a10.block (a10.off+(Ac (i1+x5)).toNat*2+0)).bind fun n11=>some (n11 == (3:Int),r7.2) else none else some (false,r7.2)).bind fun r12=>bif r12.1 then (I0 k n p0 i1 (Ac (x5+(1:Int))) r12.2) else (some (.exit 0,[.int .i64 x5],r12.2)) else none)
termination_by structural n
theorem UH (k n:Nat) (p0:Option Addr) (i1:Int) (x5:Int) (σ:Aa):DI k n p0 i1 x5 σ=I0 k n p0 i1 x5 σ:=by
 induction n generalizing p0 i1 x5 σ with
 | zero=>simp only[DI,Ab]; rfl
 | succ n ih=>rw[Jq,Is,I0]; simp only[ih,AZ,AO,Bc,Ba,Bb,Be,Bd,AW,Bf,Ap,Az,Bg,Ah,Ar,Aq,Ak]
noncomputable def Oo (k:Nat) (x0:Option Addr) (x1:Int) (σ:Aa):Option (Value × Aa):=match k with
 | 0=>none
 | k+1=>(fP x0 fun x0=>fI x1 fun x1=>fL σ fun σ=>(I0 k k x0 x1 (1:Int) σ).bind fun r13=>if r13.1 = .exit 0 then (T7 r13.2.1 fun n14=>fI n14 fun y15=>some (.int .i64 y15,r13.2.2)) else none)
theorem Rd (k:Nat) (x0:Option Addr) (x1:Int) (σ:Aa):Da k x0 x1 σ=Oo k x0 x1 σ:=by
 cases k with
 | zero=>simp only[Da,Ab]; rfl
 | succ k=>rw[Pv,NV,Oo]; simp only[UH,AZ,AO,Bc,Ba,Bb,Be,Bd,AW,Bf,Ap,Az,Bg,Ah,Ar,Aq,Ak]
noncomputable def Tq (k:Nat) (x0:Int) (σ:Aa):Option (Value × Aa):=match k with
 | 0=>none
 | k+1=>(fI x0 fun x0=>fL σ fun σ=>CC σ (.cells [.int .i64 (0:Int),.int .i64 (0:Int),.int .i64 (0:Int)] 33 true) fun h1 s2=>if (16:Int)=0 then none else if (4096:Int)=0 then none else if (16:Int)=0 then none else if (4096:Int)=0 then none else T4 s2 h1 0 [.int .i64 (x0.tmod (16:Int)),.int .i64 (Ac ((x0.tmod (4096:Int)).tdiv (16:Int))),.int .i64 (Ac (x0.tdiv (4096:Int)))] fun s3=>(((Ue s3 h1 0 3).bind fun v4=>some (.agg v4.toArray)).bind fun v5=>some [v5]).bind fun vs6=>some (Q3 vs6,s3))
theorem cg (k:Nat) (x0:Int) (σ:Aa):Jr k x0 σ=Tq k x0 σ:=by
 cases k with
 | zero=>simp only[Jr,Ab]; rfl
 | succ k=>rw[TE,SQ,Tq]; simp only[AZ,AO,Bc,Ba,Bb,Be,Bd,AW,Bf,Ap,Az,Bg,Ah,Ar,Aq,Ak]
noncomputable def GU (k:Nat) (x0:Option Addr) (x1:Int) (σ:Aa):Option (Value × Aa):=match k with
 | 0=>none
 | k+1=>(fP x0 fun x0=>fI x1 fun x1=>fL σ fun σ=>x0.bind fun a1=>(Ee σ a1.block (a1.off+1)).bind fun l2=>if 0≤(Ac (x1+(1:Int)))∧(Ac (x1+(1:Int)))<(l2.2.1:Nat) then l2.1.bind fun a3=>(Ai .i64 σ a3.block (a3.off+(Ac (x1+(1:Int))).toNat*1)).bind fun n4=>(Tq k n4 σ).bind fun r5=>jW r5.1 fun n6 n7 n8=>(N1 k n6 n7 n8 r5.2).bind fun r9=>(BF .i64 r9.1).bind fun n10=>fI n10 fun y11=>some (.int .i64 y11,r9.2) else none)
theorem Fu (k:Nat) (x0:Option Addr) (x1:Int) (σ:Aa):BR k x0 x1 σ=GU k x0 x1 σ:=by
 cases k with
 | zero=>simp only[BR,Ab]; rfl
 | succ k=>rw[Pu,NU,GU]; simp only[R8,cg,AZ,AO,Bc,Ba,Bb,Be,Bd,AW,Bf,Ap,Az,Bg,Ah,Ar,Aq,Ak]
noncomputable def Gy (k:Nat) (x0:Option Addr) (σ:Aa):Option (Value × Aa):=match k with
 | 0=>none
 | k+1=>(fP x0 fun x0=>fL σ fun σ=>(SE P 92 (.pointer x0) (.pointer none)).bind fun e1=>(bif !e1 then x0.bind fun a2=>(Ai .i64 σ a2.block (a2.off+0)).bind fun n3=>some (decide (n3>(0:Int)),σ) else some (false,σ)).bind fun r4=>fB r4.1 fun y5=>some (.bool y5,r4.2))
theorem Gb (k:Nat) (x0:Option Addr) (σ:Aa):B1 k x0 σ=Gy k x0 σ:=by
 cases k with
 | zero=>simp only[B1,Ab]; rfl
 | succ k=>rw[OM,Nb,Gy]; simp only[AZ,AO,Bc,Ba,Bb,Be,Bd,AW,Bf,Ap,Az,Bg,Ah,Ar,Aq,Ak]
noncomputable def HV (k:Nat) (x0:Option Addr) (σ:Aa):Option (Value × Aa):=match k with
 | 0=>none
 | k+1=>(fP x0 fun x0=>fL σ fun σ=>x0.bind fun a1=>(Ai .i64 σ a1.block (a1.off+1)).bind fun n2=>if n2<0 then none else fI (Ac ((Ac ((1:Int)*2 ^ (min n2.toNat 64)))-(1:Int))) fun y3=>some (.int .i64 y3,σ))
theorem Mv (k:Nat) (x0:Option Addr) (σ:Aa):CJ k x0 σ=HV k x0 σ:=by
 cases k with
 | zero=>simp only[CJ,Ab]; rfl
 | succ k=>rw[ON,Nc,HV]; simp only[AZ,AO,Bc,Ba,Bb,Be,Bd,AW,Bf,Ap,Az,Bg,Ah,Ar,Aq,Ak]
noncomputable def IV (k:Nat) (x0:Option Addr) (x1:Int) (σ:Aa):Option (Value × Aa):=match k with
 | 0=>none
 | k+1=>(fP x0 fun x0=>fI x1 fun x1=>fL σ fun σ=>x0.bind fun a1=>(Ai .i64 σ a1.block (a1.off+1)).bind fun n2=>x0.bind fun a3=>(Ee σ a3.block (a3.off+2)).bind fun l4=>if (64:Int)=0 then none else if 0≤(Ac ((Ac (x1*n2)).tdiv (64:Int)))∧(Ac ((Ac (x1*n2)).tdiv (64:Int)))<(l4.2.1:Nat) then l4.1.bind fun a5=>(Ai .u64 σ a5.block (a5.off+(Ac ((Ac (x1*n2)).tdiv (64:Int))).toNat*1)).bind fun n6=>if (64:Int)=0 then none else if ((Ac (x1*n2)).tmod (64:Int))<0 then none else (HV k x0 σ).bind fun r7=>(BF .i64 r7.1).bind fun n8=>fI (Ac ((BitVec.ofInt 64 (Ac (n6.fdiv (2 ^ (min ((Ac (x1*n2)).tmod (64:Int)).toNat 64)))) &&& BitVec.ofInt 64 n8).toNat)) fun y9=>some (.int .i64 y9,r7.2) else none)
theorem HW (k:Nat) (x0:Option Addr) (x1:Int) (σ:Aa):Dc k x0 x1 σ=IV k x0 x1 σ:=by
 cases k with
 | zero=>simp only[Dc,Ab]; rfl
 | succ k=>rw[P0,Oa,IV]; simp only[Mv,AZ,AO,Bc,Ba,Bb,Be,Bd,AW,Bf,Ap,Az,Bg,Ah,Ar,Aq,Ak]
noncomputable def HT (k n:Nat) (p0:Option Addr) (i1:Int) (x8:Int) (σ:Aa):Option Ay:=match n with
 | 0=>none
 | n+1=>(fP p0 fun p0=>fI i1 fun i1=>fI x8 fun x8=>fL σ fun σ=>bif decide (x8≥(0:Int)) then ((IV k p0 x8 σ).bind fun r7=>(BF .i64 r7.1).bind fun n8=>bif n8 == i1 then (some (.ret,[.int .i64 x8,.int .i64 (0:Int)],r7.2)) else (HT k n p0 i1 (Ac (x8-(1:Int))) r7.2)) else (some (.exit 0,[],σ)))
termination_by structural n
theorem Ug (k n:Nat) (p0:Option Addr) (i1:Int) (x8:Int) (σ:Aa):Dn k n p0 i1 x8 σ=HT k n p0 i1 x8 σ:=by
 induction n generalizing p0 i1 x8 σ with
 | zero=>simp only[Dn,Ab]; rfl
 | succ n ih=>rw[IL,HC,HT]; simp only[Gb,HW,ih,AZ,AO,Bc,Ba,Bb,Be,Bd,AW,Bf,Ap,Az,Bg,Ah,Ar,Aq,Ak]
noncomputable def N2 (k:Nat) (x0:Option Addr) (x1:Int) (x2:Int) (σ:Aa):Option (Value × Aa):=match k with
 | 0=>none
 | k+1=>(fP x0 fun x0=>fI x1 fun x1=>fI x2 fun x2=>fL σ fun σ=>(Gy k x0 σ).bind fun r1=>(DY r1.1).bind fun b2=>bif !b2 then (fI (0:Int) fun y3=>fI (5:Int) fun y4=>some (.tuple #[.int .i64 y3,.int .i64 y4],r1.2)) else (x0.bind fun a5=>(Ai .i64 r1.2 a5.block (a5.off+0)).bind fun n6=>(HT k k x0 x2 (Ac ((if n6<(if (0:Int)>x1 then (0:Int) else x1) then n6 else (if (0:Int)>x1 then (0:Int) else x1))-(1:Int))) r1.2).bind fun r9=>if r9.1 = .exit 0 then (fI (0:Int) fun y10=>fI (4:Int) fun y11=>some (.tuple #[.int .i64 y10,.int .i64 y11],r9.2.2)) else if r9.1 = .ret then (SC r9.2.1 fun n12 n13=>fI n12 fun y14=>fI n13 fun y15=>some (.tuple #[.int .i64 y14,.int .i64 y15],r9.2.2)) else none))
theorem WB (k:Nat) (x0:Option Addr) (x1:Int) (x2:Int) (σ:Aa):Ft k x0 x1 x2 σ=N2 k x0 x1 x2 σ:=by
 cases k with
 | zero=>simp only[Ft,Ab]; rfl
 | succ k=>rw[OK,MZ,N2]; simp only[Gb,HW,Ug,AZ,AO,Bc,Ba,Bb,Be,Bd,AW,Bf,Ap,Az,Bg,Ah,Ar,Aq,Ak]
noncomputable def Ok (k:Nat) (x0:Option Addr) (x1:Int) (σ:Aa):Option (Value × Aa):=match k with
 | 0=>none
 | k+1=>(fP x0 fun x0=>fI x1 fun x1=>fL σ fun σ=>(DH k x0 σ).bind fun r1=>(DY r1.1).bind fun b2=>bif !b2 then (fI (0:Int) fun y3=>fI (5:Int) fun y4=>some (.tuple #[.int .i64 y3,.int .i64 y4],r1.2)) else ((bif decide (x1<(0:Int)) then some (true,r1.2) else x0.bind fun a5=>(Ee r1.2 a5.block (a5.off+1)).bind fun l6=>some (decide (x1≥((l6.2.1:Nat):Int)),r1.2)).bind fun r7=>bif r7.1 then (fI (0:Int) fun y8=>fI (4:Int) fun y9=>some (.tuple #[.int .i64 y8,.int .i64 y9],r7.2)) else (x0.bind fun a10=>(Jb r7.2 a10.block (a10.off+2)).bind fun p11=>if (2:Int)=0 then none else (N2 k p11 (Ac ((Ac (x1.tdiv (2:Int)))+(1:Int))) (1:Int) r7.2).bind fun r12=>Gt r12.1 fun n13 n14=>(bif n14 != (0:Int) then some (true,r12.2) else (GU k x0 (Ac ((2:Int)*n13)) r12.2).bind fun r15=>(BF .i64 r15.1).bind fun n16=>some (decide (x1≥(Ac ((Ac ((2:Int)*n13))+n16))),r15.2)).bind fun r17=>bif r17.1 then (fI (0:Int) fun y18=>fI (4:Int) fun y19=>some (.tuple #[.int .i64 y18,.int .i64 y19],r17.2)) else (fI (Ac ((2:Int)*n13)) fun y20=>fI (0:Int) fun y21=>some (.tuple #[.int .i64 y20,.int .i64 y21],r17.2)))))
theorem Rc (k:Nat) (x0:Option Addr) (x1:Int) (σ:Aa):FP k x0 x1 σ=Ok k x0 x1 σ:=by
 cases k with
 | zero=>simp only[FP,Ab]; rfl
 | succ k=>rw[Pq,NQ,Ok]; simp only[DU,Fu,WB,AZ,AO,Bc,Ba,Bb,Be,Bd,AW,Bf,Ap,Az,Bg,Ah,Ar,Aq,Ak]
noncomputable def Iz (k n:Nat) (p0:Option Addr) (i1:Int) (i2:Int) (i3:Int) (x10:Int) (σ:Aa):Option Ay:=match n with
 | 0=>none
 | n+1=>(fP p0 fun p0=>fI i1 fun i1=>fI i2 fun i2=>fI i3 fun i3=>fI x10 fun x10=>fL σ fun σ=>bif decide (x10<(Ac (i1+i2))) then ((Ok k p0 x10 σ).bind fun r20=>Gt r20.1 fun n21 n22=>(bif n22 == (0:Int) then some (n21 != i3,r20.2) else some (false,r20.2)).bind fun r23=>bif r23.1 then (some (.ret,[.int .i64 (8:Int)],r23.2)) else (Iz k n p0 i1 i2 i3 (Ac (x10+(2:Int))) r23.2)) else (some (.exit 0,[],σ)))
termination_by structural n
theorem UG (k n:Nat) (p0:Option Addr) (i1:Int) (i2:Int) (i3:Int) (x10:Int) (σ:Aa):CX k n p0 i1 i2 i3 x10 σ=Iz k n p0 i1 i2 i3 x10 σ:=by
 induction n generalizing p0 i1 i2 i3 x10 σ with
 | zero=>simp only[CX,Ab]; rfl
 | succ n ih=>rw[Jp,Ir,Iz]; simp only[Rd,Rc,ih,AZ,AO,Bc,Ba,Bb,Be,Bd,AW,Bf,Ap,Az,Bg,Ah,Ar,Aq,Ak]
noncomputable def On (k:Nat) (x0:Option Addr) (x1:Int) (x2:Int) (x3:Int) (σ:Aa):Option (Value × Aa):=match k with
 | 0=>none
 | k+1=>(fP x0 fun x0=>fI x1 fun x1=>fI x2 fun x2=>fI x3 fun x3=>fL σ fun σ=>(bif decide (x1<(0:Int)) then some (true,σ) else x0.bind fun a1=>(Ee σ a1.block (a1.off+1)).bind fun l2=>some (decide (x1≥((l2.2.1:Nat):Int)),σ)).bind fun r3=>(bif r3.1 then some (true,r3.2) else if (2:Int)=0 then none else some ((x1.tmod (2:Int)) != (0:Int),r3.2)).bind fun r4=>bif r4.1 then (fI (1:Int) fun y5=>some (.int .i64 y5,r4.2)) else (if (64:Int)=0 then none else (bif decide (x2≤(32:Int)) then (x0.bind fun a6=>(Ee r4.2 a6.block (a6.off+0)).bind fun l7=>if 0≤(Ac (x1.tdiv (64:Int)))∧(Ac (x1.tdiv (64:Int)))<(l7.2.1:Nat) then l7.1.bind fun a8=>(Ai .i64 r4.2 a8.block (a8.off+(Ac (x1.tdiv (64:Int))).toNat*2+0)).bind fun n9=>(bif n9 != (1:Int) then some (true,r4.2) else if (64:Int)=0 then none else some ((Ac ((Ac ((Ac (x1+x2))-(1:Int))).tdiv (64:Int))) != (Ac (x1.tdiv (64:Int))),r4.2)).bind fun r10=>bif r10.1 then (some (.ret,[.int .i64 (5:Int)],r10.2)) else (some (.normal,[],r10.2)) else none) else (x0.bind fun a11=>(Ee r4.2 a11.block (a11.off+0)).bind fun l12=>if 0≤(Ac (x1.tdiv (64:Int)))∧(Ac (x1.tdiv (64:Int)))<(l12.2.1:Nat) then l12.1.bind fun a13=>(Ai .i64 r4.2 a13.block (a13.off+(Ac (x1.tdiv (64:Int))).toNat*2+0)).bind fun n14=>(bif n14 != (2:Int) then some (true,r4.2) else if (64:Int)=0 then none else some ((x1.tmod (64:Int)) != (0:Int),r4.2)).bind fun r15=>(bif r15.1 then some (true,r15.2) else (Oo k x0 (Ac (x1.tdiv (64:Int))) r15.2).bind fun r16=>(BF .i64 r16.1).bind fun n17=>if (64:Int)=0 then none else some (n17 != (Ac ((Ac ((Ac (x2+(64:Int)))-(1:Int))).tdiv (64:Int))),r16.2)).bind fun r18=>bif r18.1 then (some (.ret,[.int .i64 (5:Int)],r18.2)) else (some (.normal,[],r18.2)) else none):Option Ay).bind fun r19=>if r19.1 = .normal then ((Iz k k x0 x1 x2 x3 x1 r19.2.2).bind fun r24=>if r24.1 = .exit 0 then (fI (0:Int) fun y25=>some (.int .i64 y25,r24.2.2)) else if r24.1 = .ret then (T7 r24.2.1 fun n26=>fI n26 fun y27=>some (.int .i64 y27,r24.2.2)) else none) else if r19.1 = .ret then (T7 r19.2.1 fun n28=>fI n28 fun y29=>some (.int .i64 y29,r19.2.2)) else none))
theorem Xe (k:Nat) (x0:Option Addr) (x1:Int) (x2:Int) (x3:Int) (σ:Aa):FQ k x0 x1 x2 x3 σ=On k x0 x1 x2 x3 σ:=by
 cases k with
 | zero=>simp only[FQ,Ab]; rfl
 | succ k=>rw[Ps,NS,On]; simp only[Rd,Rc,UG,AZ,AO,Bc,Ba,Bb,Be,Bd,AW,Bf,Ap,Az,Bg,Ah,Ar,Aq,Ak]
noncomputable def RC (k:Nat) (x0_0:Int) (x0_1:Int) (x0_2:Int) (σ:Aa):Option (Value × Aa):=match k with
 | 0=>none
 | k+1=>(fI x0_0 fun x0_0=>fI x0_1 fun x0_1=>fI x0_2 fun x0_2=>fL σ fun σ=>CC σ (.cells [.int .i64 x0_0,.int .i64 x0_1,.int .i64 x0_2] 33 true) fun h1 s2=>(Ai .i64 s2 h1 (0+0)).bind fun n3=>(Ai .i64 s2 h1 (0+1)).bind fun n4=>(Ai .i64 s2 h1 (0+2)).bind fun n5=>fI (Ac ((Ac (n3+(Ac ((16:Int)*n4))))+(Ac ((4096:Int)*n5)))) fun y6=>some (.int .i64 y6,s2))
theorem aF (k:Nat) (x0_0:Int) (x0_1:Int) (x0_2:Int) (σ:Aa):Ic k x0_0 x0_1 x0_2 σ=RC k x0_0 x0_1 x0_2 σ:=by
 cases k with
 | zero=>simp only[Ic,Ab]; rfl
 | succ k=>rw[Sc,Rv,RC]; simp only[AZ,AO,Bc,Ba,Bb,Be,Bd,AW,Bf,Ap,Az,Bg,Ah,Ar,Aq,Ak]
noncomputable def J2 (k:Nat) (x0:Option Addr) (x1:Int) (σ:Aa):Option (Value × Aa):=match k with
 | 0=>none
 | k+1=>(fP x0 fun x0=>fI x1 fun x1=>fL σ fun σ=>(Gy k x0 σ).bind fun r1=>(DY r1.1).bind fun b2=>(bif b2 then some (decide (x1≥(0:Int)),r1.2) else some (false,r1.2)).bind fun r3=>(bif r3.1 then x0.bind fun a4=>(Ai .i64 r3.2 a4.block (a4.off+0)).bind fun n5=>some (decide (x1<n5),r3.2) else some (false,r3.2)).bind fun r6=>fB r6.1 fun y7=>some (.bool y7,r6.2))
theorem P5 (k:Nat) (x0:Option Addr) (x1:Int) (σ:Aa):Dy k x0 x1 σ=J2 k x0 x1 σ:=by
 cases k with
 | zero=>simp only[Dy,Ab]; rfl
 | succ k=>rw[NF,Mb,J2]; simp only[Gb,AZ,AO,Bc,Ba,Bb,Be,Bd,AW,Bf,Ap,Az,Bg,Ah,Ar,Aq,Ak]
noncomputable def Ms (k:Nat) (x0:Option Addr) (x1:Int) (σ:Aa):Option (Value × Aa):=match k with
 | 0=>none
 | k+1=>(fP x0 fun x0=>fI x1 fun x1=>fL σ fun σ=>(bif decide (x1≥(0:Int)) then (HV k x0 σ).bind fun r1=>(BF .i64 r1.1).bind fun n2=>some (decide (x1≤n2),r1.2) else some (false,σ)).bind fun r3=>fB r3.1 fun y4=>some (.bool y4,r3.2))
theorem VA (k:Nat) (x0:Option Addr) (x1:Int) (σ:Aa):EP k x0 x1 σ=Ms k x0 x1 σ:=by
 cases k with
 | zero=>simp only[EP,Ab]; rfl
 | succ k=>rw[NG,Mc,Ms]; simp only[Mv,AZ,AO,Bc,Ba,Bb,Be,Bd,AW,Bf,Ap,Az,Bg,Ah,Ar,Aq,Ak]
noncomputable def JU (k:Nat) (x0:Int) (c0:Option Addr) (σ:Aa):Option (Value × Aa):=match k with
 | 0=>none
 | k+1=>(fI x0 fun x0=>fP c0 fun c0=>fL σ fun σ=>c0.bind fun a1=>(Jb σ a1.block a1.off).bind fun p2=>(Ms k p2 x0 σ).bind fun r3=>(DY r3.1).bind fun b4=>fB (!b4) fun y5=>some (.bool y5,r3.2))
theorem Tw (k:Nat) (x0:Int) (c0:Option Addr) (σ:Aa):C0 k x0 c0 σ=JU k x0 c0 σ:=by
 cases k with
 | zero=>simp only[C0,Ab]; rfl
 | succ k=>rw[LB,JO,JU]; simp only[VA,AZ,AO,Bc,Ba,Bb,Be,Bd,AW,Bf,Ap,Az,Bg,Ah,Ar,Aq,Ak]
theorem S9 (k:Nat) (x0:Int) (c0:Option Addr) (σ:Aa):fn P (XK Kn.b) H k 179 [.int .i64 x0,.pointer c0] σ=C0 k x0 c0 σ:=by
 simp only[C0,Ab]
noncomputable def Rn (k:Nat) (n:FuncId) (l:List Value) (σ:Aa):Option (Value × Aa):=
 if n=179 then (match l with
  | [.int .i64 y1,.pointer y2]=>JU k y1 y2 σ
  | l=>fn P (XK Kn.b) H k 179 l σ) else
 fn P (XK Kn.b) H k n l σ
theorem dX (k:Nat) (n:FuncId) (l:List Value) (σ:Aa):fn P (XK Kn.b) H k n l σ=Rn k n l σ:=by
 unfold Rn
 split
 ·rename_i hn; subst hn
  split
  ·exact (S9 k _ _ σ).trans (Tw k _ _ σ)
  ·rfl
 rfl
noncomputable def Va (k:Nat) (f:Value) (args:List Value) (σ:Aa):Option (Value × Aa):=match f with
 | .func (.func n) first cap=>Rn k n (first.toList++args++cap.toList) σ
 | .func (.method nm) first _=>(match first.toList++args with
   | .iface t v::rest=>(Tg P t nm).bind fun n=>Rn k n (v::rest) σ
   | _=>none)
 | _=>none
theorem WU (k:Nat) (f:Value) (args:List Value) (σ:Aa):M6 k f args σ=Va k f args σ:=by
 simp only[M6,Ab]
 unfold Oz Va
 simp only[dX]
 rfl
noncomputable def FK (k n:Nat) (p0:Option Addr) (c1:Nat) (c2:Nat) (v3:Value) (i4:Int) (x8:Int) (σ:Aa):Option Ay:=match n with
 | 0=>none
 | n+1=>(fP p0 fun p0=>fN c1 fun c1=>fN c2 fun c2=>fI i4 fun i4=>fI x8 fun x8=>fL σ fun σ=>bif decide (x8<i4) then (if 0≤x8∧x8<(c1:Nat) then p0.bind fun a1=>(Ai .i64 σ a1.block (a1.off+x8.toNat*1)).bind fun n2=>(Va k v3 [.int .i64 n2] σ).bind fun r3=>(DY r3.1).bind fun b4=>bif b4 then (some (.ret,[.int .i64 x8],r3.2)) else (FK k n p0 c1 c2 v3 i4 (Ac (x8+(1:Int))) r3.2) else none) else (some (.exit 0,[],σ)))
termination_by structural n
theorem QB (k n:Nat) (p0:Option Addr) (c1:Nat) (c2:Nat) (v3:Value) (i4:Int) (x8:Int) (σ:Aa):CA k n p0 c1 c2 v3 i4 x8 σ=FK k n p0 c1 c2 v3 i4 x8 σ:=by
 induction n generalizing p0 c1 c2 v3 i4 x8 σ with
 | zero=>simp only[CA,Ab]; rfl
 | succ n ih=>rw[G9,FB,FK]; simp only[WU,ih,AZ,AO,Bc,Ba,Bb,Be,Bd,AW,Bf,Ap,Az,Bg,Ah,Ar,Aq,Ak]
noncomputable def J3 (k:Nat) (x0:Option Addr × Nat × Nat) (x1:Value) (σ:Aa):Option (Value × Aa):=match k with
 | 0=>none
 | k+1=>(fS x0 fun x0=>fL σ fun σ=>(FK k k x0.1 x0.2.1 x0.2.2 x1 ((x0.2.1:Nat):Int) (0:Int) σ).bind fun r5=>if r5.1 = .exit 0 then (fI (-1:Int) fun y6=>some (.int .i64 y6,r5.2.2)) else if r5.1 = .ret then (T7 r5.2.1 fun n7=>fI n7 fun y8=>some (.int .i64 y8,r5.2.2)) else none)
theorem SA (k:Nat) (x0:Option Addr × Nat × Nat) (x1:Value) (σ:Aa):Et k x0 x1 σ=J3 k x0 x1 σ:=by
 cases k with
 | zero=>simp only[Et,Ab]; rfl
 | succ k=>rw[Lc,Jm,J3]; simp only[WU,QB,AZ,AO,Bc,Ba,Bb,Be,Bd,AW,Bf,Ap,Az,Bg,Ah,Ar,Aq,Ak]
noncomputable def Hx (k:Nat) (x0:Option Addr × Nat × Nat) (x1:Value) (σ:Aa):Option (Value × Aa):=match k with
 | 0=>none
 | k+1=>(fS x0 fun x0=>fL σ fun σ=>(J3 k (x0.1,x0.2.1,x0.2.2) (x1) σ).bind fun r1=>(BF .i64 r1.1).bind fun n2=>fB (decide (n2≥(0:Int))) fun y3=>some (.bool y3,r1.2))
theorem QA (k:Nat) (x0:Option Addr × Nat × Nat) (x1:Value) (σ:Aa):Dr k x0 x1 σ=Hx k x0 x1 σ:=by
 cases k with
 | zero=>simp only[Dr,Ab]; rfl
 | succ k=>rw[J7,Hv,Hx]; simp only[SA,AZ,AO,Bc,Ba,Bb,Be,Bd,AW,Bf,Ap,Az,Bg,Ah,Ar,Aq,Ak]
noncomputable def Mr (k:Nat) (x0:Option Addr) (x1:Int) (x2:Option Addr × Nat × Nat) (σ:Aa):Option (Value × Aa):=match k with
 | 0=>none
 | k+1=>(fP x0 fun x0=>fI x1 fun x1=>fS x2 fun x2=>fL σ fun σ=>CC σ (.cells [.pointer x0] 92 true) fun h1 s2=>(Jb s2 h1 0).bind fun p3=>(Gy k p3 s2).bind fun r4=>(DY r4.1).bind fun b5=>bif !b5 then (fI (5:Int) fun y6=>some (.int .i64 y6,r4.2)) else ((Jb r4.2 h1 0).bind fun p7=>(J2 k p7 x1 r4.2).bind fun r8=>(DY r8.1).bind fun b9=>(bif !b9 then some (true,r8.2) else (Hx k (x2.1,x2.2.1,x2.2.2) (.func (.func 179) #[] #[.pointer (some ⟨h1,0,none⟩)]) r8.2).bind fun r10=>(DY r10.1).bind fun b11=>some (b11,r10.2)).bind fun r12=>bif r12.1 then (fI (1:Int) fun y13=>some (.int .i64 y13,r12.2)) else (fI (0:Int) fun y14=>some (.int .i64 y14,r12.2))))
theorem V9 (k:Nat) (x0:Option Addr) (x1:Int) (x2:Option Addr × Nat × Nat) (σ:Aa):EO k x0 x1 x2 σ=Mr k x0 x1 x2 σ:=by
 cases k with
 | zero=>simp only[EO,Ab]; rfl
 | succ k=>rw[ND,Ma,Mr]; simp only[Gb,P5,QA,AZ,AO,Bc,Ba,Bb,Be,Bd,AW,Bf,Ap,Az,Bg,Ah,Ar,Aq,Ak]
noncomputable def Ou (k:Nat) (x0:Option Addr) (x1:Int) (x2:Int) (σ:Aa):Option (Value × Aa):=match k with
 | 0=>none
 | k+1=>(fP x0 fun x0=>fI x1 fun x1=>fI x2 fun x2=>fL σ fun σ=>x0.bind fun a1=>(Ai .i64 σ a1.block (a1.off+1)).bind fun n2=>x0.bind fun a3=>(Ee σ a3.block (a3.off+2)).bind fun l4=>if (64:Int)=0 then none else if 0≤(Ac ((Ac (x1*n2)).tdiv (64:Int)))∧(Ac ((Ac (x1*n2)).tdiv (64:Int)))<(l4.2.1:Nat) then l4.1.bind fun a5=>(Ai .u64 σ a5.block (a5.off+(Ac ((Ac (x1*n2)).tdiv (64:Int))).toNat*1)).bind fun n6=>(HV k x0 σ).bind fun r7=>(BF .i64 r7.1).bind fun n8=>if (64:Int)=0 then none else if ((Ac (x1*n2)).tmod (64:Int))<0 then none else if (64:Int)=0 then none else if ((Ac (x1*n2)).tmod (64:Int))<0 then none else VC r7.2 a5.block (a5.off+(Ac ((Ac (x1*n2)).tdiv (64:Int))).toNat*1) (.int .u64 (u64 ((BitVec.ofInt 64 (u64 ((BitVec.ofInt 64 n6 &&& ~~~ (BitVec.ofInt 64 (u64 ((u64 (n8))*2 ^ (min ((Ac (x1*n2)).tmod (64:Int)).toNat 64))))).toNat)) ||| BitVec.ofInt 64 (u64 ((u64 (x2))*2 ^ (min ((Ac (x1*n2)).tmod (64:Int)).toNat 64)))).toNat))) fun s9=>some (.tuple #[],s9) else none)
theorem X1 (k:Nat) (x0:Option Addr) (x1:Int) (x2:Int) (σ:Aa):FW k x0 x1 x2 σ=Ou k x0 x1 x2 σ:=by
 cases k with
 | zero=>simp only[FW,Ab]; rfl
 | succ k=>rw[P1,Ob,Ou]; simp only[Mv,AZ,AO,Bc,Ba,Bb,Be,Bd,AW,Bf,Ap,Az,Bg,Ah,Ar,Aq,Ak]
noncomputable def IU (k:Nat) (x0:Option Addr) (x1:Int) (x2:Int) (σ:Aa):Option (Value × Aa):=match k with
 | 0=>none
 | k+1=>(fP x0 fun x0=>fI x1 fun x1=>fI x2 fun x2=>fL σ fun σ=>CC σ (.cells [.int .i64 x2] 3 true) fun h1 s2=>(Mr k x0 x1 (some ⟨h1,0,none⟩,1,1) s2).bind fun r3=>(BF .i64 r3.1).bind fun n4=>bif n4 != (0:Int) then (fI n4 fun y5=>some (.int .i64 y5,r3.2)) else ((Ou k x0 x1 x2 r3.2).bind fun r6=>Uj r6.1 (fI (0:Int) fun y7=>some (.int .i64 y7,r6.2))))
theorem Rp (k:Nat) (x0:Option Addr) (x1:Int) (x2:Int) (σ:Aa):CB k x0 x1 x2 σ=IU k x0 x1 x2 σ:=by
 cases k with
 | zero=>simp only[CB,Ab]; rfl
 | succ k=>rw[Pz,NZ,IU]; simp only[V9,X1,AZ,AO,Bc,Ba,Bb,Be,Bd,AW,Bf,Ap,Az,Bg,Ah,Ar,Aq,Ak]
noncomputable def Ke (k:Nat) (x0:Option Addr) (x1:Int) (x2_0:Int) (x2_1:Int) (x2_2:Int) (σ:Aa):Option (Value × Aa):=match k with
 | 0=>none
 | k+1=>(fP x0 fun x0=>fI x1 fun x1=>fI x2_0 fun x2_0=>fI x2_1 fun x2_1=>fI x2_2 fun x2_2=>fL σ fun σ=>CC σ (.cells [.int .i64 x2_0,.int .i64 x2_1,.int .i64 x2_2] 33 true) fun h1 s2=>(DH k x0 s2).bind fun r3=>(DY r3.1).bind fun b4=>bif !b4 then (fI (0:Int) fun y5=>fI (5:Int) fun y6=>some (.tuple #[.int .i64 y5,.int .i64 y6],r3.2)) else ((Ai .i64 r3.2 h1 0).bind fun n7=>(Ai .i64 r3.2 h1 (0+1)).bind fun n8=>(Ai .i64 r3.2 h1 (0+1+1)).bind fun n9=>(N0 k n7 n8 n9 r3.2).bind fun r10=>(DY r10.1).bind fun b11=>bif !b11 then (fI (0:Int) fun y12=>fI (2:Int) fun y13=>some (.tuple #[.int .i64 y12,.int .i64 y13],r10.2)) else ((Ai .i64 r10.2 h1 0).bind fun n14=>(Ai .i64 r10.2 h1 (0+1)).bind fun n15=>(Ai .i64 r10.2 h1 (0+1+1)).bind fun n16=>(N1 k n14 n15 n16 r10.2).bind fun r17=>(BF .i64 r17.1).bind fun n18=>(On k x0 x1 n18 (-1:Int) r17.2).bind fun r19=>(BF .i64 r19.1).bind fun n20=>bif n20 != (0:Int) then (fI (0:Int) fun y21=>fI n20 fun y22=>some (.tuple #[.int .i64 y21,.int .i64 y22],r19.2)) else (x0.bind fun a23=>(Ai .i64 r19.2 a23.block (a23.off+6)).bind fun n24=>x0.bind fun a25=>VC r19.2 a25.block (a25.off+6) (.int .i64 (Ac (n24+(1:Int)))) fun s26=>x0.bind fun a27=>(Ee s26 a27.block (a27.off+1)).bind fun l28=>x0.bind fun a29=>(Ee s26 a29.block (a29.off+1)).bind fun l30=>x0.bind fun a31=>(Ai .i64 s26 a31.block (a31.off+6)).bind fun n32=>(Ai .i64 s26 h1 0).bind fun n33=>(Ai .i64 s26 h1 (0+1)).bind fun n34=>(Ai .i64 s26 h1 (0+1+1)).bind fun n35=>(RC k n33 n34 n35 s26).bind fun r36=>(BF .i64 r36.1).bind fun n37=>if 0≤x1∧x1<(l28.2.1:Nat) then l28.1.bind fun a38=>VC r36.2 a38.block (a38.off+x1.toNat*1) (.int .i64 n32) fun s39=>if 0≤(Ac (x1+(1:Int)))∧(Ac (x1+(1:Int)))<(l30.2.1:Nat) then l30.1.bind fun a40=>VC s39 a40.block (a40.off+(Ac (x1+(1:Int))).toNat*1) (.int .i64 n37) fun s41=>x0.bind fun a42=>(Jb s41 a42.block (a42.off+2)).bind fun p43=>if (2:Int)=0 then none else (IU k p43 (Ac (x1.tdiv (2:Int))) (1:Int) s41).bind fun r44=>(BF .i64 r44.1).bind fun n45=>x0.bind fun a46=>(lH r44.2 a46.block (a46.off+4)).bind fun m47=>x0.bind fun a48=>(Ai .i64 r44.2 a48.block (a48.off+6)).bind fun n49=>m47.bind fun h51=>(Sp r44.2 h51).bind fun es50=>ou r44.2 h51 (Og n49 (.int .i64 x1) es50) fun s52=>x0.bind fun a53=>(Ai .i64 s52 a53.block (a53.off+6)).bind fun n54=>fI n54 fun y55=>fI (0:Int) fun y56=>some (.tuple #[.int .i64 y55,.int .i64 y56],s52) else none else none))))
theorem Qs (k:Nat) (x0:Option Addr) (x1:Int) (x2_0:Int) (x2_1:Int) (x2_2:Int) (σ:Aa):Cn k x0 x1 x2_0 x2_1 x2_2 σ=Ke k x0 x1 x2_0 x2_1 x2_2 σ:=by
 cases k with
 | zero=>simp only[Cn,Ab]; rfl
 | succ k=>rw[OD,MR,Ke]; simp only[R8,R6,DU,Xe,aF,Rp,AZ,AO,Bc,Ba,Bb,Be,Bd,AW,Bf,Ap,Az,Bg,Ah,Ar,Aq,Ak]
noncomputable def J0 (k:Nat) (x0:Option Addr) (σ:Aa):Option (Value × Aa):=match k with
 | 0=>none
 | k+1=>(fP x0 fun x0=>fL σ fun σ=>(SE P 42 (.pointer x0) (.pointer none)).bind fun e1=>(bif !e1 then x0.bind fun a2=>(Jb σ a2.block (a2.off+0)).bind fun p3=>(SE P 25 (.pointer p3) (.pointer none)).bind fun e4=>some (!e4,σ) else some (false,σ)).bind fun r5=>fB r5.1 fun y6=>some (.bool y6,r5.2))
theorem RS (k:Nat) (x0:Option Addr) (σ:Aa):Bz k x0 σ=J0 k x0 σ:=by
 cases k with
 | zero=>simp only[Bz,Ab]; rfl
 | succ k=>rw[KZ,Jj,J0]; simp only[AZ,AO,Bc,Ba,Bb,Be,Bd,AW,Bf,Ap,Az,Bg,Ah,Ar,Aq,Ak]
noncomputable def KR (k:Nat)  (σ:Aa):Option (Value × Aa):=match k with
 | 0=>none
 | k+1=>(fL σ fun σ=>CC σ (.cells [.iface 150 (.agg #[]),.iface 151 (.agg #[]),.iface 152 (.agg #[]),.iface 153 (.agg #[]),.iface 154 (.agg #[])] 116 true) fun h1 s2=>some (.slice (some ⟨h1,0,none⟩) 5 5,s2))
theorem QQ (k:Nat)  (σ:Aa):DE k  σ=KR k  σ:=by
 cases k with
 | zero=>simp only[DE,Ab]; rfl
 | succ k=>rw[Pp,NP,KR]; simp only[AZ,AO,Bc,Ba,Bb,Be,Bd,AW,Bf,Ap,Az,Bg,Ah,Ar,Aq,Ak]
noncomputable def Tt (k:Nat) (x0:Int) (σ:Aa):Option (Value × Aa):=match k with
 | 0=>none
 | k+1=>(fI x0 fun x0=>fL σ fun σ=>(bif decide (x0≥(0:Int)) then some (decide (x0<(8:Int)),σ) else some (false,σ)).bind fun r1=>fB r1.1 fun y2=>some (.bool y2,r1.2))
theorem VQ (k:Nat) (x0:Int) (σ:Aa):GH k x0 σ=Tt k x0 σ:=by
 cases k with
 | zero=>simp only[GH,Ab]; rfl
 | succ k=>rw[TF,SR,Tt]; simp only[AZ,AO,Bc,Ba,Bb,Be,Bd,AW,Bf,Ap,Az,Bg,Ah,Ar,Aq,Ak]
noncomputable def Kh (k:Nat) (x0:Option Addr) (x1:Int) (σ:Aa):Option (Value × Aa):=match k with
 | 0=>none
 | k+1=>(fP x0 fun x0=>fI x1 fun x1=>fL σ fun σ=>(DH k x0 σ).bind fun r1=>(DY r1.1).bind fun b2=>(bif b2 then some (decide (x1≥(1:Int)),r1.2) else some (false,r1.2)).bind fun r3=>(bif r3.1 then x0.bind fun a4=>(Ee r3.2 a4.block (a4.off+0)).bind fun l5=>some (decide (x1<((l5.2.1:Nat):Int)),r3.2) else some (false,r3.2)).bind fun r6=>fB r6.1 fun y7=>some (.bool y7,r6.2))
theorem Mh (k:Nat) (x0:Option Addr) (x1:Int) (σ:Aa):CG k x0 x1 σ=Kh k x0 x1 σ:=by
 cases k with
 | zero=>simp only[CG,Ab]; rfl
 | succ k=>rw[OH,MU,Kh]; simp only[DU,AZ,AO,Bc,Ba,Bb,Be,Bd,AW,Bf,Ap,Az,Bg,Ah,Ar,Aq,Ak]
noncomputable def KJ (k:Nat) (x0_0:Int) (x0_1:Int) (σ:Aa):Option (Value × Aa):=match k with
 | 0=>none
 | k+1=>(fI x0_0 fun x0_0=>fI x0_1 fun x0_1=>fL σ fun σ=>CC σ (.cells [.int .i64 x0_0,.int .i64 x0_1] 104 true) fun h1 s2=>(Ai .i64 s2 h1 0).bind fun n3=>(Ai .i64 s2 h1 (0+1)).bind fun n4=>(SE P 104 (.agg #[.int .i64 n3,.int .i64 n4]) (.agg #[.int .i64 (0:Int),.int .i64 (0:Int)])).bind fun e5=>fB (!e5) fun y6=>some (.bool y6,s2))
theorem Uc (k:Nat) (x0_0:Int) (x0_1:Int) (σ:Aa):CF k x0_0 x0_1 σ=KJ k x0_0 x0_1 σ:=by
 cases k with
 | zero=>simp only[CF,Ab]; rfl
 | succ k=>rw[M8,Kp,KJ]; simp only[AZ,AO,Bc,Ba,Bb,Be,Bd,AW,Bf,Ap,Az,Bg,Ah,Ar,Aq,Ak]
theorem Td (k:Nat) (x0_0:Int) (x0_1:Int) (σ:Aa):fn P (XK Kn.b) H k 166 [.agg #[.int .i64 x0_0,.int .i64 x0_1]] σ=CF k x0_0 x0_1 σ:=by
 simp only[CF,Ab]
noncomputable def PE (k:Nat) (n:FuncId) (l:List Value) (σ:Aa):Option (Value × Aa):=
 if n=166 then (match l with
  | [.agg ⟨[.int .i64 y1,.int .i64 y2]⟩]=>KJ k y1 y2 σ
  | l=>fn P (XK Kn.b) H k 166 l σ) else
 fn P (XK Kn.b) H k n l σ
theorem cb (k:Nat) (n:FuncId) (l:List Value) (σ:Aa):fn P (XK Kn.b) H k n l σ=PE k n l σ:=by
 unfold PE
 split
 ·rename_i hn; subst hn
  split
  ·exact (Td k _ _ σ).trans (Uc k _ _ σ)
  ·rfl
 rfl
noncomputable def To (k:Nat) (f:Value) (args:List Value) (σ:Aa):Option (Value × Aa):=match f with
 | .func (.func n) first cap=>PE k n (first.toList++args++cap.toList) σ
 | .func (.method nm) first _=>(match first.toList++args with
   | .iface t v::rest=>(Tg P t nm).bind fun n=>PE k n (v::rest) σ
   | _=>none)
 | _=>none
theorem VO (k:Nat) (f:Value) (args:List Value) (σ:Aa):HE k f args σ=To k f args σ:=by
 simp only[HE,Ab]
 unfold Oz To
 simp only[cb]
 rfl
noncomputable def DV (k n:Nat) (p0:Option Addr) (c1:Nat) (c2:Nat) (v3:Value) (i4:Int) (x8:Int) (σ:Aa):Option Ay:=match n with
 | 0=>none
 | n+1=>(fP p0 fun p0=>fN c1 fun c1=>fN c2 fun c2=>fI i4 fun i4=>fI x8 fun x8=>fL σ fun σ=>bif decide (x8<i4) then (if 0≤x8∧x8<(c1:Nat) then p0.bind fun a1=>(Ai .i64 σ a1.block (a1.off+x8.toNat*2)).bind fun n2=>(Ai .i64 σ a1.block (a1.off+x8.toNat*2+1)).bind fun n3=>(To k v3 [.agg #[.int .i64 n2,.int .i64 n3]] σ).bind fun r4=>(DY r4.1).bind fun b5=>bif b5 then (some (.ret,[.int .i64 x8],r4.2)) else (DV k n p0 c1 c2 v3 i4 (Ac (x8+(1:Int))) r4.2) else none) else (some (.exit 0,[],σ)))
termination_by structural n
theorem MN (k n:Nat) (p0:Option Addr) (c1:Nat) (c2:Nat) (v3:Value) (i4:Int) (x8:Int) (σ:Aa):Bm k n p0 c1 c2 v3 i4 x8 σ=DV k n p0 c1 c2 v3 i4 x8 σ:=by
 induction n generalizing p0 c1 c2 v3 i4 x8 σ with
 | zero=>simp only[Bm,Ab]; rfl
 | succ n ih=>rw[EK,DR,DV]; simp only[VO,ih,AZ,AO,Bc,Ba,Bb,Be,Bd,AW,Bf,Ap,Az,Bg,Ah,Ar,Aq,Ak]
noncomputable def Gr (k:Nat) (x0:Option Addr × Nat × Nat) (x1:Value) (σ:Aa):Option (Value × Aa):=match k with
 | 0=>none
 | k+1=>(fS x0 fun x0=>fL σ fun σ=>(DV k k x0.1 x0.2.1 x0.2.2 x1 ((x0.2.1:Nat):Int) (0:Int) σ).bind fun r6=>if r6.1 = .exit 0 then (fI (-1:Int) fun y7=>some (.int .i64 y7,r6.2.2)) else if r6.1 = .ret then (T7 r6.2.1 fun n8=>fI n8 fun y9=>some (.int .i64 y9,r6.2.2)) else none)
theorem Ov (k:Nat) (x0:Option Addr × Nat × Nat) (x1:Value) (σ:Aa):C4 k x0 x1 σ=Gr k x0 x1 σ:=by
 cases k with
 | zero=>simp only[C4,Ab]; rfl
 | succ k=>rw[HK,Gl,Gr]; simp only[VO,MN,AZ,AO,Bc,Ba,Bb,Be,Bd,AW,Bf,Ap,Az,Bg,Ah,Ar,Aq,Ak]
noncomputable def Fy (k:Nat) (x0:Option Addr × Nat × Nat) (x1:Value) (σ:Aa):Option (Value × Aa):=match k with
 | 0=>none
 | k+1=>(fS x0 fun x0=>fL σ fun σ=>(Gr k (x0.1,x0.2.1,x0.2.2) (x1) σ).bind fun r1=>(BF .i64 r1.1).bind fun n2=>fB (decide (n2≥(0:Int))) fun y3=>some (.bool y3,r1.2))
theorem Hs (k:Nat) (x0:Option Addr × Nat × Nat) (x1:Value) (σ:Aa):BU k x0 x1 σ=Fy k x0 x1 σ:=by
 cases k with
 | zero=>simp only[BU,Ab]; rfl
 | succ k=>rw[GP,Fm,Fy]; simp only[Ov,AZ,AO,Bc,Ba,Bb,Be,Bd,AW,Bf,Ap,Az,Bg,Ah,Ar,Aq,Ak]
noncomputable def HS (k n:Nat) (p0:Option Addr) (i1:Int) (h2:Nat) (i3:Int) (x54:Int) (σ:Aa):Option Ay:=match n with
 | 0=>none
 | n+1=>(fP p0 fun p0=>fI i1 fun i1=>fN h2 fun h2=>fI i3 fun i3=>fI x54 fun x54=>fL σ fun σ=>bif decide (x54<i3) then (p0.bind fun a25=>(Ee σ a25.block (a25.off+0)).bind fun l26=>(Ai .i64 σ h2 0).bind fun n27=>(Ai .i64 σ h2 (0+1)).bind fun n28=>if 0≤(Ac (i1+x54))∧(Ac (i1+x54))<(l26.2.1:Nat) then l26.1.bind fun a29=>T4 σ a29.block (a29.off+(Ac (i1+x54)).toNat*2) [.int .i64 n27,.int .i64 n28] fun s30=>HS k n p0 i1 h2 i3 (Ac (x54+(1:Int))) s30 else none) else (some (.exit 1,[],σ)))
termination_by structural n
theorem Ud (k n:Nat) (p0:Option Addr) (i1:Int) (h2:Nat) (i3:Int) (x54:Int) (σ:Aa):Dk k n p0 i1 h2 i3 x54 σ=HS k n p0 i1 h2 i3 x54 σ:=by
 induction n generalizing p0 i1 h2 i3 x54 σ with
 | zero=>simp only[Dk,Ab]; rfl
 | succ n ih=>rw[IF,HB,HS]; simp only[DU,VQ,Mh,Hs,ih,AZ,AO,Bc,Ba,Bb,Be,Bd,AW,Bf,Ap,Az,Bg,Ah,Ar,Aq,Ak]
noncomputable def Kg (k:Nat) (x0:Option Addr) (x1:Int) (x2:Int) (x3_0:Int) (x3_1:Int) (x4_0:Int) (x4_1:Int) (σ:Aa):Option (Value × Aa):=match k with
 | 0=>none
 | k+1=>(fP x0 fun x0=>fI x1 fun x1=>fI x2 fun x2=>fI x3_0 fun x3_0=>fI x3_1 fun x3_1=>fI x4_0 fun x4_0=>fI x4_1 fun x4_1=>fL σ fun σ=>CC σ (.cells [.int .i64 x3_0,.int .i64 x3_1] 104 true) fun h1 s2=>CC s2 (.cells [.int .i64 x4_0,.int .i64 x4_1] 104 true) fun h3 s4=>(DH k x0 s4).bind fun r5=>(DY r5.1).bind fun b6=>bif !b6 then (fI (5:Int) fun y7=>some (.int .i64 y7,r5.2)) else ((Kh k x0 x1 r5.2).bind fun r8=>(DY r8.1).bind fun b9=>(bif !b9 then some (true,r8.2) else some (decide (x2<(1:Int)),r8.2)).bind fun r10=>(bif r10.1 then some (true,r10.2) else x0.bind fun a11=>(Ee r10.2 a11.block (a11.off+0)).bind fun l12=>some (decide (x2>(Ac (((l12.2.1:Nat):Int)-x1))),r10.2)).bind fun r13=>(bif r13.1 then some (true,r13.2) else (Ai .i64 r13.2 h1 (0+1)).bind fun n14=>(Tt k n14 r13.2).bind fun r15=>(DY r15.1).bind fun b16=>some (!b16,r15.2)).bind fun r17=>bif r17.1 then (fI (1:Int) fun y18=>some (.int .i64 y18,r17.2)) else (x0.bind fun a19=>(Ee r17.2 a19.block (a19.off+0)).bind fun l20=>(KK 104 2 (l20.1,l20.2.1,l20.2.2) (some (.int .i64 x1)) (some (.int .i64 (Ac (x1+x2)))) none r17.2).bind fun l21=>(Fy k (l21.1,l21.2.1,l21.2.2) (.func (.func 166) #[] #[]) r17.2).bind fun r22=>(DY r22.1).bind fun b23=>bif b23 then (fI (8:Int) fun y24=>some (.int .i64 y24,r22.2)) else ((HS k k x0 x1 h3 x2 (0:Int) r22.2).bind fun r31=>if r31.1 = .exit 1 then (x0.bind fun a32=>(Ee r31.2.2 a32.block (a32.off+0)).bind fun l33=>(Ai .i64 r31.2.2 h1 0).bind fun n34=>(Ai .i64 r31.2.2 h1 (0+1)).bind fun n35=>if 0≤x1∧x1<(l33.2.1:Nat) then l33.1.bind fun a36=>T4 r31.2.2 a36.block (a36.off+x1.toNat*2) [.int .i64 n34,.int .i64 n35] fun s37=>fI (0:Int) fun y38=>some (.int .i64 y38,s37) else none) else none))))
theorem Qu (k:Nat) (x0:Option Addr) (x1:Int) (x2:Int) (x3_0:Int) (x3_1:Int) (x4_0:Int) (x4_1:Int) (σ:Aa):DT k x0 x1 x2 x3_0 x3_1 x4_0 x4_1 σ=Kg k x0 x1 x2 x3_0 x3_1 x4_0 x4_1 σ:=by
 cases k with
 | zero=>simp only[DT,Ab]; rfl
 | succ k=>rw[OG,MT,Kg]; simp only[DU,VQ,Mh,Hs,Ud,AZ,AO,Bc,Ba,Bb,Be,Bd,AW,Bf,Ap,Az,Bg,Ah,Ar,Aq,Ak]
noncomputable def J1 (k:Nat) (x0:Option Addr) (x1:Int) (x2:Int) (x3:Int) (σ:Aa):Option (Value × Aa):=match k with
 | 0=>none
 | k+1=>(fP x0 fun x0=>fI x1 fun x1=>fI x2 fun x2=>fI x3 fun x3=>fL σ fun σ=>(Kg k x0 x1 x2 (2:Int) x3 (3:Int) x3 σ).bind fun r1=>(BF .i64 r1.1).bind fun n2=>fI n2 fun y3=>some (.int .i64 y3,r1.2))
theorem MD (k:Nat) (x0:Option Addr) (x1:Int) (x2:Int) (x3:Int) (σ:Aa):Dv k x0 x1 x2 x3 σ=J1 k x0 x1 x2 x3 σ:=by
 cases k with
 | zero=>simp only[Dv,Ab]; rfl
 | succ k=>rw[La,Jk,J1]; simp only[Qu,AZ,AO,Bc,Ba,Bb,Be,Bd,AW,Bf,Ap,Az,Bg,Ah,Ar,Aq,Ak]
noncomputable def Fx (k n:Nat) (p0:Option Addr) (i1:Int) (x7:Int) (σ:Aa):Option Ay:=match n with
 | 0=>none
 | n+1=>(fP p0 fun p0=>fI i1 fun i1=>fI x7 fun x7=>fL σ fun σ=>p0.bind fun a1=>(Jb σ a1.block (a1.off+0)).bind fun p2=>(Ek k p2 σ).bind fun r3=>(BF .i64 r3.1).bind fun n4=>bif decide ((Ac (x7+i1))≤n4) then (p0.bind fun a5=>(Jb r3.2 a5.block (a5.off+0)).bind fun p6=>p0.bind fun a7=>(Ai .i64 r3.2 a7.block (a7.off+1)).bind fun n8=>(J1 k p6 x7 i1 n8 r3.2).bind fun r9=>(BF .i64 r9.1).bind fun n10=>bif n10 == (0:Int) then (some (.ret,[.int .i64 (Ac (x7*(64:Int))),.bool true],r9.2)) else (Fx k n p0 i1 (Ac (x7+(1:Int))) r9.2)) else (some (.exit 0,[],r3.2)))
termination_by structural n
theorem PA (k n:Nat) (p0:Option Addr) (i1:Int) (x7:Int) (σ:Aa):BO k n p0 i1 x7 σ=Fx k n p0 i1 x7 σ:=by
 induction n generalizing p0 i1 x7 σ with
 | zero=>simp only[BO,Ab]; rfl
 | succ n ih=>rw[Jc,GX,Fx]; simp only[CY,MD,ih,AZ,AO,Bc,Ba,Bb,Be,Bd,AW,Bf,Ap,Az,Bg,Ah,Ar,Aq,Ak]
noncomputable def IQ (k:Nat) (x0:Option Addr) (x1:Int) (σ:Aa):Option (Value × Aa):=match k with
 | 0=>none
 | k+1=>(fP x0 fun x0=>fI x1 fun x1=>fL σ fun σ=>if (64:Int)=0 then none else (Fx k k x0 (Ac ((Ac ((Ac (x1+(64:Int)))-(1:Int))).tdiv (64:Int))) (1:Int) σ).bind fun r11=>if r11.1 = .exit 0 then (fI (0:Int) fun y12=>fB false fun y13=>some (.tuple #[.int .i64 y12,.bool y13],r11.2.2)) else if r11.1 = .ret then (cn r11.2.1 fun n14 b15=>fI n14 fun y16=>fB b15 fun y17=>some (.tuple #[.int .i64 y16,.bool y17],r11.2.2)) else none)
theorem Ru (k:Nat) (x0:Option Addr) (x1:Int) (σ:Aa):BQ k x0 x1 σ=IQ k x0 x1 σ:=by
 cases k with
 | zero=>simp only[BQ,Ab]; rfl
 | succ k=>rw[Kz,I7,IQ]; simp only[CY,MD,PA,AZ,AO,Bc,Ba,Bb,Be,Bd,AW,Bf,Ap,Az,Bg,Ah,Ar,Aq,Ak]
theorem QE (k:Nat) (x0:Option Addr) (x1:Int) (σ:Aa):fn P (XK Kn.b) H k 99 [.pointer x0,.int .i64 x1] σ=BQ k x0 x1 σ:=by
 simp only[BQ,Ab]
noncomputable def Kc (k:Nat) (x0:Option Addr) (x1:Int) (x2:Int) (σ:Aa):Option (Value × Aa):=match k with
 | 0=>none
 | k+1=>(fP x0 fun x0=>fI x1 fun x1=>fI x2 fun x2=>fL σ fun σ=>(Kg k x0 x1 (1:Int) (1:Int) x2 (0:Int) (0:Int) σ).bind fun r1=>(BF .i64 r1.1).bind fun n2=>fI n2 fun y3=>some (.int .i64 y3,r1.2))
theorem Mf (k:Nat) (x0:Option Addr) (x1:Int) (x2:Int) (σ:Aa):Cl k x0 x1 x2 σ=Kc k x0 x1 x2 σ:=by
 cases k with
 | zero=>simp only[Cl,Ab]; rfl
 | succ k=>rw[OC,MQ,Kc]; simp only[Qu,AZ,AO,Bc,Ba,Bb,Be,Bd,AW,Bf,Ap,Az,Bg,Ah,Ar,Aq,Ak]
noncomputable def Fw (k n:Nat) (p0:Option Addr) (h1:Nat) (x4:Int) (σ:Aa):Option Ay:=match n with
 | 0=>none
 | n+1=>(fP p0 fun p0=>fN h1 fun h1=>fI x4 fun x4=>fL σ fun σ=>p0.bind fun a3=>(Jb σ a3.block (a3.off+0)).bind fun p4=>(Ek k p4 σ).bind fun r5=>(BF .i64 r5.1).bind fun n6=>bif decide (x4<n6) then (p0.bind fun a7=>(Jb r5.2 a7.block (a7.off+0)).bind fun p8=>p0.bind fun a9=>(Ai .i64 r5.2 a9.block (a9.off+1)).bind fun n10=>(Kc k p8 x4 n10 r5.2).bind fun r11=>(BF .i64 r11.1).bind fun n12=>bif n12 == (0:Int) then (T4 r11.2 h1 0 [.int .i64 (Ac (x4*(64:Int))),.int .i64 (Ac ((Ac (x4+(1:Int)))*(64:Int)))] fun s13=>some (.ret,[.bool true],s13)) else (Fw k n p0 h1 (Ac (x4+(1:Int))) r11.2)) else (some (.exit 0,[],r5.2)))
termination_by structural n
theorem P9 (k n:Nat) (p0:Option Addr) (h1:Nat) (x4:Int) (σ:Aa):BN k n p0 h1 x4 σ=Fw k n p0 h1 x4 σ:=by
 induction n generalizing p0 h1 x4 σ with
 | zero=>simp only[BN,Ab]; rfl
 | succ n ih=>rw[Gm,Fk,Fw]; simp only[CY,Mf,ih,AZ,AO,Bc,Ba,Bb,Be,Bd,AW,Bf,Ap,Az,Bg,Ah,Ar,Aq,Ak]
noncomputable def Fa (k:Nat) (x0:Option Addr) (σ:Aa):Option (Value × Aa):=match k with
 | 0=>none
 | k+1=>(fP x0 fun x0=>fL σ fun σ=>CC σ (.cells [.int .i64 (0:Int),.int .i64 (0:Int)] 120 true) fun h1 s2=>(Fw k k x0 h1 (1:Int) s2).bind fun r14=>if r14.1 = .exit 0 then (T4 r14.2.2 h1 0 [.int .i64 (0:Int),.int .i64 (0:Int)] fun s15=>(((Ue s15 h1 0 2).bind fun v16=>some (.agg v16.toArray)).bind fun v17=>some [v17,.bool false]).bind fun vs18=>some (Q3 vs18,s15)) else if r14.1 = .ret then (m6 r14.2.1 fun b19=>(((Ue r14.2.2 h1 0 2).bind fun v20=>some (.agg v20.toArray)).bind fun v21=>some [v21,.bool b19]).bind fun vs22=>some (Q3 vs22,r14.2.2)) else none)
theorem DB (k:Nat) (x0:Option Addr) (σ:Aa):Bs k x0 σ=Fa k x0 σ:=by
 cases k with
 | zero=>simp only[Bs,Ab]; rfl
 | succ k=>rw[Ky,I6,Fa]; simp only[CY,Mf,P9,AZ,AO,Bc,Ba,Bb,Be,Bd,AW,Bf,Ap,Az,Bg,Ah,Ar,Aq,Ak]
noncomputable def Fb (k:Nat) (x0:Option Addr) (x1:Option Addr × Nat × Nat) (σ:Aa):Option (Value × Aa):=match k with
 | 0=>none
 | k+1=>(fP x0 fun x0=>fS x1 fun x1=>fL σ fun σ=>bif decide (((x1.2.1:Nat):Int)>(0:Int)) then (if 0≤(0:Int)∧(0:Int)<(x1.2.1:Nat) then x1.1.bind fun a1=>(Ai .i64 σ a1.block (a1.off+(0:Int).toNat*2+0)).bind fun n2=>fI n2 fun y3=>fB true fun y4=>some (.tuple #[.int .i64 y3,.bool y4],σ) else none) else ((Fa k x0 σ).bind fun r5=>(Zg r5.1).bind fun q6=>if q6.length=2 then q6.head?.bind fun v7=>bX v7 fun n8 n9=>q6.tail.head?.bind fun v10=>(DY v10).bind fun b11=>CC r5.2 (.cells [.int .i64 (0:Int),.int .i64 (0:Int)] 120 true) fun h12 s13=>T4 s13 h12 0 [.int .i64 n8,.int .i64 n9] fun s14=>(Ai .i64 s14 h12 (0+0)).bind fun n15=>fI n15 fun y16=>fB b11 fun y17=>some (.tuple #[.int .i64 y16,.bool y17],s14) else none))
theorem HZ (k:Nat) (x0:Option Addr) (x1:Option Addr × Nat × Nat) (σ:Aa):AN k x0 x1 σ=Fb k x0 x1 σ:=by
 cases k with
 | zero=>simp only[AN,Ab]; rfl
 | succ k=>rw[K6,I8,Fb]; simp only[DB,AZ,AO,Bc,Ba,Bb,Be,Bd,AW,Bf,Ap,Az,Bg,Ah,Ar,Aq,Ak]
noncomputable def HU (k n:Nat) (p0:Option Addr) (i1:Int) (x8:Int) (σ:Aa):Option Ay:=match n with
 | 0=>none
 | n+1=>(fP p0 fun p0=>fI i1 fun i1=>fI x8 fun x8=>fL σ fun σ=>p0.bind fun a5=>(Ai .i64 σ a5.block (a5.off+0)).bind fun n6=>bif decide (x8<n6) then ((IV k p0 x8 σ).bind fun r7=>(BF .i64 r7.1).bind fun n8=>bif n8 == i1 then (some (.ret,[.int .i64 x8,.int .i64 (0:Int)],r7.2)) else (HU k n p0 i1 (Ac (x8+(1:Int))) r7.2)) else (some (.exit 0,[],σ)))
termination_by structural n
theorem Uh (k n:Nat) (p0:Option Addr) (i1:Int) (x8:Int) (σ:Aa):Dp k n p0 i1 x8 σ=HU k n p0 i1 x8 σ:=by
 induction n generalizing p0 i1 x8 σ with
 | zero=>simp only[Dp,Ab]; rfl
 | succ n ih=>rw[MC,Kt,HU]; simp only[Gb,HW,ih,AZ,AO,Bc,Ba,Bb,Be,Bd,AW,Bf,Ap,Az,Bg,Ah,Ar,Aq,Ak]
noncomputable def Ki (k:Nat) (x0:Option Addr) (x1:Int) (x2:Int) (σ:Aa):Option (Value × Aa):=match k with
 | 0=>none
 | k+1=>(fP x0 fun x0=>fI x1 fun x1=>fI x2 fun x2=>fL σ fun σ=>(Gy k x0 σ).bind fun r1=>(DY r1.1).bind fun b2=>bif !b2 then (fI (0:Int) fun y3=>fI (5:Int) fun y4=>some (.tuple #[.int .i64 y3,.int .i64 y4],r1.2)) else ((HU k k x0 x2 (if (0:Int)>x1 then (0:Int) else x1) r1.2).bind fun r9=>if r9.1 = .exit 0 then (fI (0:Int) fun y10=>fI (4:Int) fun y11=>some (.tuple #[.int .i64 y10,.int .i64 y11],r9.2.2)) else if r9.1 = .ret then (SC r9.2.1 fun n12 n13=>fI n12 fun y14=>fI n13 fun y15=>some (.tuple #[.int .i64 y14,.int .i64 y15],r9.2.2)) else none))
theorem Q9 (k:Nat) (x0:Option Addr) (x1:Int) (x2:Int) (σ:Aa):CI k x0 x1 x2 σ=Ki k x0 x1 x2 σ:=by
 cases k with
 | zero=>simp only[CI,Ab]; rfl
 | succ k=>rw[OL,Na,Ki]; simp only[Gb,HW,Uh,AZ,AO,Bc,Ba,Bb,Be,Bd,AW,Bf,Ap,Az,Bg,Ah,Ar,Aq,Ak]
noncomputable def GJ (k n:Nat) (p0:Option Addr) (i1:Int) (x7:Option Addr × Nat × Nat) (x8:Int) (x9:Int) (σ:Aa):Option Ay:=match n with
 | 0=>none
 | n+1=>(fP p0 fun p0=>fI i1 fun i1=>fS x7 fun x7=>fI x8 fun x8=>fI x9 fun x9=>fL σ fun σ=>(bif x9 == (0:Int) then some (decide ((Ac ((2:Int)*x8))<i1),σ) else some (false,σ)).bind fun r6=>bif r6.1 then (CC r6.2 (.cells [.int .i64 (Ac ((2:Int)*x8))] 3 true) fun h7 s8=>(Bn P 3 (x7.1,x7.2.1,x7.2.2) (some ⟨h7,0,none⟩,1,1) s8).bind fun r9=>fR r9 fun r9=>p0.bind fun a10=>(Jb r9.2 a10.block (a10.off+2)).bind fun p11=>(Ki k p11 (Ac (x8+(1:Int))) (1:Int) r9.2).bind fun r12=>Gt r12.1 fun n13 n14=>GJ k n p0 i1 (r9.1.1,r9.1.2.1,r9.1.2.2) n13 n14 r12.2) else (some (.exit 0,[.slice x7.1 x7.2.1 x7.2.2],r6.2)))
termination_by structural n
theorem Sm (k n:Nat) (p0:Option Addr) (i1:Int) (x7:Option Addr × Nat × Nat) (x8:Int) (x9:Int) (σ:Aa):BJ k n p0 i1 x7 x8 x9 σ=GJ k n p0 i1 x7 x8 x9 σ:=by
 induction n generalizing p0 i1 x7 x8 x9 σ with
 | zero=>simp only[BJ,Ab]; rfl
 | succ n ih=>rw[FC,Fl,GJ]; simp only[Q9,ih,AZ,AO,Bc,Ba,Bb,Be,Bd,AW,Bf,Ap,Az,Bg,Ah,Ar,Aq,Ak]
noncomputable def Lu (k:Nat) (x0:Option Addr) (x1:Int) (x2:Int) (σ:Aa):Option (Value × Aa):=match k with
 | 0=>none
 | k+1=>(fP x0 fun x0=>fI x1 fun x1=>fI x2 fun x2=>fL σ fun σ=>x0.bind fun a1=>(Jb σ a1.block (a1.off+2)).bind fun p2=>if (2:Int)=0 then none else (Ki k p2 (Ac (x1.tdiv (2:Int))) (1:Int) σ).bind fun r3=>Gt r3.1 fun n4 n5=>(GJ k k x0 x2 (none,0,0) n4 n5 r3.2).bind fun r15=>if r15.1 = .exit 0 then (ZD r15.2.1 fun l16=>some (.slice l16.1 l16.2.1 l16.2.2,r15.2.2)) else none)
theorem UF (k:Nat) (x0:Option Addr) (x1:Int) (x2:Int) (σ:Aa):E4 k x0 x1 x2 σ=Lu k x0 x1 x2 σ:=by
 cases k with
 | zero=>simp only[E4,Ab]; rfl
 | succ k=>rw[Nj,Lj,Lu]; simp only[Q9,Sm,AZ,AO,Bc,Ba,Bb,Be,Bd,AW,Bf,Ap,Az,Bg,Ah,Ar,Aq,Ak]
noncomputable def Iy (k:Nat) (x0:Option Addr) (x1:Int) (σ:Aa):Option (Value × Aa):=match k with
 | 0=>none
 | k+1=>(fP x0 fun x0=>fI x1 fun x1=>fL σ fun σ=>(DH k x0 σ).bind fun r1=>(DY r1.1).bind fun b2=>(bif !b2 then some (true,r1.2) else some (decide (x1<(0:Int)),r1.2)).bind fun r3=>(bif r3.1 then some (true,r3.2) else x0.bind fun a4=>(Ee r3.2 a4.block (a4.off+0)).bind fun l5=>some (decide (x1≥((l5.2.1:Nat):Int)),r3.2)).bind fun r6=>bif r6.1 then (some (.slice none 0 0,r6.2)) else ((Lu k x0 (Ac (x1*(64:Int))) (Ac ((Ac (x1+(1:Int)))*(64:Int))) r6.2).bind fun r7=>(Hm r7.1).bind fun l8=>some (.slice l8.1 l8.2.1 l8.2.2,r7.2)))
theorem Gq (k:Nat) (x0:Option Addr) (x1:Int) (σ:Aa):Cb k x0 x1 σ=Iy k x0 x1 σ:=by
 cases k with
 | zero=>simp only[Cb,Ab]; rfl
 | succ k=>rw[Ni,Li,Iy]; simp only[DU,UF,AZ,AO,Bc,Ba,Bb,Be,Bd,AW,Bf,Ap,Az,Bg,Ah,Ar,Aq,Ak]
noncomputable def KS (k:Nat) (x0:Option Addr) (x1:Int) (σ:Aa):Option (Value × Aa):=match k with
 | 0=>none
 | k+1=>(fP x0 fun x0=>fI x1 fun x1=>fL σ fun σ=>(Kh k x0 x1 σ).bind fun r1=>(DY r1.1).bind fun b2=>(bif b2 then x0.bind fun a3=>(Ee r1.2 a3.block (a3.off+0)).bind fun l4=>if 0≤x1∧x1<(l4.2.1:Nat) then l4.1.bind fun a5=>(Ai .i64 r1.2 a5.block (a5.off+x1.toNat*2+0)).bind fun n6=>some (n6 == (1:Int),r1.2) else none else some (false,r1.2)).bind fun r7=>fB r7.1 fun y8=>some (.bool y8,r7.2))
theorem HL (k:Nat) (x0:Option Addr) (x1:Int) (σ:Aa):BS k x0 x1 σ=KS k x0 x1 σ:=by
 cases k with
 | zero=>simp only[BS,Ab]; rfl
 | succ k=>rw[Lm,KL,KS]; simp only[Mh,AZ,AO,Bc,Ba,Bb,Be,Bd,AW,Bf,Ap,Az,Bg,Ah,Ar,Aq,Ak]
noncomputable def Iw (k:Nat) (x0:Int) (c0:Option Addr) (c1:Option Addr) (σ:Aa):Option (Value × Aa):=match k with
 | 0=>none
 | k+1=>(fI x0 fun x0=>fP c0 fun c0=>fP c1 fun c1=>fL σ fun σ=>c0.bind fun a1=>(Ai .i64 σ a1.block a1.off).bind fun n2=>(bif decide (x0>n2) then (c1.bind fun a3=>(Ee σ a3.block a3.off).bind fun l4=>c0.bind fun a5=>(Ai .i64 σ a5.block a5.off).bind fun n6=>c0.bind fun a7=>(Ai .i64 σ a7.block a7.off).bind fun n8=>CC σ (.cells [.int .i64 n6,.int .i64 (Ac (x0-n8))] 51 true) fun h9 s10=>(Bn P 51 (l4.1,l4.2.1,l4.2.2) (some ⟨h9,0,none⟩,1,1) s10).bind fun r11=>fR r11 fun r11=>c1.bind fun a12=>VC r11.2 a12.block a12.off (.slice r11.1.1 r11.1.2.1 r11.1.2.2) fun s13=>some (.normal,[],s13)) else (some (.normal,[],σ)):Option Ay).bind fun r14=>if r14.1 = .normal then (some (.tuple #[],r14.2.2)) else none)
theorem OO (k:Nat) (x0:Int) (c0:Option Addr) (c1:Option Addr) (σ:Aa):C7 k x0 c0 c1 σ=Iw k x0 c0 c1 σ:=by
 cases k with
 | zero=>simp only[C7,Ab]; rfl
 | succ k=>rw[Jn,Ip,Iw]; simp only[AZ,AO,Bc,Ba,Bb,Be,Bd,AW,Bf,Ap,Az,Bg,Ah,Ar,Aq,Ak]
noncomputable def Ix (k n:Nat) (p0:Option Addr) (h1:Nat) (h2:Nat) (p3:Option Addr) (c4:Nat) (c5:Nat) (i6:Int) (x21:Int) (σ:Aa):Option Ay:=match n with
 | 0=>none
 | n+1=>(fP p0 fun p0=>fN h1 fun h1=>fN h2 fun h2=>fP p3 fun p3=>fN c4 fun c4=>fN c5 fun c5=>fI i6 fun i6=>fI x21 fun x21=>fL σ fun σ=>bif decide (x21<i6) then (if 0≤x21∧x21<(c4:Nat) then p3.bind fun a10=>(Ai .i64 σ a10.block (a10.off+x21.toNat*1)).bind fun n11=>(Iw k n11 (some ⟨h1,0,none⟩) (some ⟨h2,0,none⟩) σ).bind fun r12=>Uj r12.1 ((GU k p0 n11 r12.2).bind fun r13=>(BF .i64 r13.1).bind fun n14=>VC r13.2 h1 0 (.int .i64 (Ac (n11+n14))) fun s15=>Ix k n p0 h1 h2 p3 c4 c5 i6 (Ac (x21+(1:Int))) s15) else none) else (some (.exit 0,[],σ)))
termination_by structural n
theorem UE (k n:Nat) (p0:Option Addr) (h1:Nat) (h2:Nat) (p3:Option Addr) (c4:Nat) (c5:Nat) (i6:Int) (x21:Int) (σ:Aa):CW k n p0 h1 h2 p3 c4 c5 i6 x21 σ=Ix k n p0 h1 h2 p3 c4 c5 i6 x21 σ:=by
 induction n generalizing p0 h1 h2 p3 c4 c5 i6 x21 σ with
 | zero=>simp only[CW,Ab]; rfl
 | succ n ih=>rw[Jo,Iq,Ix]; simp only[Gq,HL,Fu,OO,ih,AZ,AO,Bc,Ba,Bb,Be,Bd,AW,Bf,Ap,Az,Bg,Ah,Ar,Aq,Ak]
noncomputable def Ol (k:Nat) (x0:Option Addr) (x1:Int) (σ:Aa):Option (Value × Aa):=match k with
 | 0=>none
 | k+1=>(fP x0 fun x0=>fI x1 fun x1=>fL σ fun σ=>(KS k x0 x1 σ).bind fun r1=>(DY r1.1).bind fun b2=>bif !b2 then (some (.slice none 0 0,r1.2)) else (CC r1.2 (.cells [.slice none 0 0] 46 true) fun h3 s4=>CC s4 (.cells [.int .i64 (0:Int)] 3 true) fun h5 s6=>VC s6 h5 0 (.int .i64 (Ac (x1*(64:Int)))) fun s7=>(Iy k x0 x1 s7).bind fun r8=>(Hm r8.1).bind fun l9=>(Ix k k x0 h5 h3 l9.1 l9.2.1 l9.2.2 ((l9.2.1:Nat):Int) (0:Int) r8.2).bind fun r16=>if r16.1 = .exit 0 then ((Iw k (Ac ((Ac (x1+(1:Int)))*(64:Int))) (some ⟨h5,0,none⟩) (some ⟨h3,0,none⟩) r16.2.2).bind fun r17=>Uj r17.1 ((Ee r17.2 h3 0).bind fun l18=>some (.slice l18.1 l18.2.1 l18.2.2,r17.2))) else none))
theorem Nt (k:Nat) (x0:Option Addr) (x1:Int) (σ:Aa):EV k x0 x1 σ=Ol k x0 x1 σ:=by
 cases k with
 | zero=>simp only[EV,Ab]; rfl
 | succ k=>rw[Iu,I9,Ol]; simp only[Gq,HL,Fu,OO,UE,AZ,AO,Bc,Ba,Bb,Be,Bd,AW,Bf,Ap,Az,Bg,Ah,Ar,Aq,Ak]
noncomputable def Nz (k:Nat) (x0:Option Addr) (x1:Int) (σ:Aa):Option (Value × Aa):=match k with
 | 0=>none
 | k+1=>(fP x0 fun x0=>fI x1 fun x1=>fL σ fun σ=>(bif decide (x1<(0:Int)) then some (true,σ) else (Ek k x0 σ).bind fun r1=>(BF .i64 r1.1).bind fun n2=>some (decide (x1≥n2),r1.2)).bind fun r3=>bif r3.1 then (fI (-1:Int) fun y4=>some (.int .i64 y4,r3.2)) else (x0.bind fun a5=>(Ee r3.2 a5.block (a5.off+0)).bind fun l6=>if 0≤x1∧x1<(l6.2.1:Nat) then l6.1.bind fun a7=>(Ai .i64 r3.2 a7.block (a7.off+x1.toNat*2+0)).bind fun n8=>fI n8 fun y9=>some (.int .i64 y9,r3.2) else none))
theorem Qt (k:Nat) (x0:Option Addr) (x1:Int) (σ:Aa):E9 k x0 x1 σ=Nz k x0 x1 σ:=by
 cases k with
 | zero=>simp only[E9,Ab]; rfl
 | succ k=>rw[OE,MS,Nz]; simp only[CY,AZ,AO,Bc,Ba,Bb,Be,Bd,AW,Bf,Ap,Az,Bg,Ah,Ar,Aq,Ak]
noncomputable def Fe (k n:Nat) (p0:Option Addr) (i1:Int) (x3:Option Addr × Nat × Nat) (x10:Int) (σ:Aa):Option Ay:=match n with
 | 0=>none
 | n+1=>(fP p0 fun p0=>fI i1 fun i1=>fS x3 fun x3=>fI x10 fun x10=>fL σ fun σ=>bif decide (x10<i1) then (p0.bind fun a5=>(Jb σ a5.block (a5.off+0)).bind fun p6=>(Nz k p6 x10 σ).bind fun r7=>(BF .i64 r7.1).bind fun n8=>(bif n8 == (1:Int) then p0.bind fun a9=>(Jb r7.2 a9.block (a9.off+0)).bind fun p10=>(Kf k p10 x10 r7.2).bind fun r11=>(BF .i64 r11.1).bind fun n12=>p0.bind fun a13=>(Ai .i64 r11.2 a13.block (a13.off+1)).bind fun n14=>some (n12 == n14,r11.2) else some (false,r7.2)).bind fun r15=>(bif r15.1 then (CC r15.2 (.cells [.int .i64 x10] 3 true) fun h16 s17=>(Bn P 3 (x3.1,x3.2.1,x3.2.2) (some ⟨h16,0,none⟩,1,1) s17).bind fun r18=>fR r18 fun r18=>some (.normal,[.slice r18.1.1 r18.1.2.1 r18.1.2.2],r18.2)) else (some (.normal,[.slice x3.1 x3.2.1 x3.2.2],r15.2)):Option Ay).bind fun r19=>if r19.1 = .normal then (ZD r19.2.1 fun l20=>Fe k n p0 i1 (l20.1,l20.2.1,l20.2.2) (Ac (x10+(1:Int))) r19.2.2) else none) else (some (.exit 0,[.slice x3.1 x3.2.1 x3.2.2],σ)))
termination_by structural n
theorem Pb (k n:Nat) (p0:Option Addr) (i1:Int) (x3:Option Addr × Nat × Nat) (x10:Int) (σ:Aa):Bu k n p0 i1 x3 x10 σ=Fe k n p0 i1 x3 x10 σ:=by
 induction n generalizing p0 i1 x3 x10 σ with
 | zero=>simp only[Bu,Ab]; rfl
 | succ n ih=>rw[FO,Fc,Fe]; simp only[CY,Qt,Mg,ih,AZ,AO,Bc,Ba,Bb,Be,Bd,AW,Bf,Ap,Az,Bg,Ah,Ar,Aq,Ak]
noncomputable def Gi (k:Nat) (x0:Option Addr) (σ:Aa):Option (Value × Aa):=match k with
 | 0=>none
 | k+1=>(fP x0 fun x0=>fL σ fun σ=>x0.bind fun a1=>(Jb σ a1.block (a1.off+0)).bind fun p2=>(Ek k p2 σ).bind fun r3=>(BF .i64 r3.1).bind fun n4=>(Fe k k x0 n4 (none,0,0) (0:Int) r3.2).bind fun r21=>if r21.1 = .exit 0 then (ZD r21.2.1 fun l22=>some (.slice l22.1 l22.2.1 l22.2.2,r21.2.2)) else none)
theorem C9 (k:Nat) (x0:Option Addr) (σ:Aa):Bp k x0 σ=Gi k x0 σ:=by
 cases k with
 | zero=>simp only[Bp,Ab]; rfl
 | succ k=>rw[JY,Ia,Gi]; simp only[CY,Qt,Mg,Pb,AZ,AO,Bc,Ba,Bb,Be,Bd,AW,Bf,Ap,Az,Bg,Ah,Ar,Aq,Ak]
noncomputable def FG (k n:Nat) (i0:Int) (i1:Int) (p2:Option Addr) (c3:Nat) (c4:Nat) (i5:Int) (x7:Option Addr × Nat × Nat) (x27:Int) (σ:Aa):Option Ay:=match n with
 | 0=>none
 | n+1=>(fI i0 fun i0=>fI i1 fun i1=>fP p2 fun p2=>fN c3 fun c3=>fN c4 fun c4=>fI i5 fun i5=>fS x7 fun x7=>fI x27 fun x27=>fL σ fun σ=>bif decide (x27<i5) then (if 0≤x27∧x27<(c3:Nat) then p2.bind fun a9=>(Ai .i64 σ a9.block (a9.off+x27.toNat*2)).bind fun n10=>(Ai .i64 σ a9.block (a9.off+x27.toNat*2+1)).bind fun n11=>CC σ (.cells [.int .i64 (0:Int),.int .i64 (0:Int)] 51 true) fun h12 s13=>T4 s13 h12 0 [.int .i64 n10,.int .i64 n11] fun s14=>(Ai .i64 s14 h12 (0+0)).bind fun n15=>(bif decide ((Ac (i0-n15))>(0:Int)) then ((Ai .i64 s14 h12 (0+1)).bind fun n16=>VC s14 h12 (0+0) (.int .i64 i0) fun s17=>VC s17 h12 (0+1) (.int .i64 (Ac (n16-(Ac (i0-n15))))) fun s18=>some (.normal,[],s18)) else (some (.normal,[],s14)):Option Ay).bind fun r19=>if r19.1 = .normal then ((Ai .i64 r19.2.2 h12 (0+1)).bind fun n20=>(bif decide (n20≥i1) then ((Ai .i64 r19.2.2 h12 0).bind fun n21=>(Ai .i64 r19.2.2 h12 (0+1)).bind fun n22=>CC r19.2.2 (.cells [.int .i64 n21,.int .i64 n22] 51 true) fun h23 s24=>(Bn P 51 (x7.1,x7.2.1,x7.2.2) (some ⟨h23,0,none⟩,1,1) s24).bind fun r25=>fR r25 fun r25=>some (.normal,[.slice r25.1.1 r25.1.2.1 r25.1.2.2],r25.2)) else (some (.normal,[.slice x7.1 x7.2.1 x7.2.2],r19.2.2)):Option Ay).bind fun r26=>if r26.1 = .normal then (ZD r26.2.1 fun l27=>FG k n i0 i1 p2 c3 c4 i5 (l27.1,l27.2.1,l27.2.2) (Ac (x27+(1:Int))) r26.2.2) else none) else none else none) else (some (.exit 2,[.slice x7.1 x7.2.1 x7.2.2],σ)))
termination_by structural n
theorem Kl (k n:Nat) (i0:Int) (i1:Int) (p2:Option Addr) (c3:Nat) (c4:Nat) (i5:Int) (x7:Option Addr × Nat × Nat) (x27:Int) (σ:Aa):BB k n i0 i1 p2 c3 c4 i5 x7 x27 σ=FG k n i0 i1 p2 c3 c4 i5 x7 x27 σ:=by
 induction n generalizing i0 i1 p2 c3 c4 i5 x7 x27 σ with
 | zero=>simp only[BB,Ab]; rfl
 | succ n ih=>rw[G3,F8,FG]; simp only[Nt,C9,ih,AZ,AO,Bc,Ba,Bb,Be,Bd,AW,Bf,Ap,Az,Bg,Ah,Ar,Aq,Ak]
noncomputable def FF (k n:Nat) (p0:Option Addr) (i1:Int) (i2:Int) (p3:Option Addr) (c4:Nat) (c5:Nat) (i6:Int) (x7:Option Addr × Nat × Nat) (x16:Int) (σ:Aa):Option Ay:=match n with
 | 0=>none
 | n+1=>(fP p0 fun p0=>fI i1 fun i1=>fI i2 fun i2=>fP p3 fun p3=>fN c4 fun c4=>fN c5 fun c5=>fI i6 fun i6=>fS x7 fun x7=>fI x16 fun x16=>fL σ fun σ=>bif decide (x16<i6) then (if 0≤x16∧x16<(c4:Nat) then p3.bind fun a3=>(Ai .i64 σ a3.block (a3.off+x16.toNat*1)).bind fun n4=>p0.bind fun a5=>(Jb σ a5.block (a5.off+0)).bind fun p6=>(Ol k p6 n4 σ).bind fun r7=>(Hm r7.1).bind fun l8=>(FG k k i1 i2 l8.1 l8.2.1 l8.2.2 ((l8.2.1:Nat):Int) (x7.1,x7.2.1,x7.2.2) (0:Int) r7.2).bind fun r28=>if r28.1 = .exit 2 then (ZD r28.2.1 fun l29=>FF k n p0 i1 i2 p3 c4 c5 i6 (l29.1,l29.2.1,l29.2.2) (Ac (x16+(1:Int))) r28.2.2) else none else none) else (some (.exit 0,[.slice x7.1 x7.2.1 x7.2.2],σ)))
termination_by structural n
theorem PM (k n:Nat) (p0:Option Addr) (i1:Int) (i2:Int) (p3:Option Addr) (c4:Nat) (c5:Nat) (i6:Int) (x7:Option Addr × Nat × Nat) (x16:Int) (σ:Aa):BA k n p0 i1 i2 p3 c4 c5 i6 x7 x16 σ=FF k n p0 i1 i2 p3 c4 c5 i6 x7 x16 σ:=by
 induction n generalizing p0 i1 i2 p3 c4 c5 i6 x7 x16 σ with
 | zero=>simp only[BA,Ab]; rfl
 | succ n ih=>rw[G2,F7,FF]; simp only[Nt,C9,Kl,ih,AZ,AO,Bc,Ba,Bb,Be,Bd,AW,Bf,Ap,Az,Bg,Ah,Ar,Aq,Ak]
noncomputable def Ex (k:Nat) (x0:Option Addr) (x1:Int) (x2:Int) (σ:Aa):Option (Value × Aa):=match k with
 | 0=>none
 | k+1=>(fP x0 fun x0=>fI x1 fun x1=>fI x2 fun x2=>fL σ fun σ=>(Gi k x0 σ).bind fun r1=>(Hm r1.1).bind fun l2=>(FF k k x0 x1 x2 l2.1 l2.2.1 l2.2.2 ((l2.2.1:Nat):Int) (none,0,0) (0:Int) r1.2).bind fun r30=>if r30.1 = .exit 0 then (ZD r30.2.1 fun l31=>some (.slice l31.1 l31.2.1 l31.2.2,r30.2.2)) else none)
theorem I4 (k:Nat) (x0:Option Addr) (x1:Int) (x2:Int) (σ:Aa):AL k x0 x1 x2 σ=Ex k x0 x1 x2 σ:=by
 cases k with
 | zero=>simp only[AL,Ab]; rfl
 | succ k=>rw[KX,Jh,Ex]; simp only[Nt,C9,Kl,PM,AZ,AO,Bc,Ba,Bb,Be,Bd,AW,Bf,Ap,Az,Bg,Ah,Ar,Aq,Ak]
noncomputable def Ls (k:Nat) (x1:Option Addr) (x2:Int) (σ:Aa):Option (Value × Aa):=match k with
 | 0=>none
 | k+1=>(fP x1 fun x1=>fI x2 fun x2=>fL σ fun σ=>CC σ (.cells [] 150 true) fun h1 s2=>(Ex k x1 (0:Int) x2 s2).bind fun r3=>(Hm r3.1).bind fun l4=>(Fb k x1 (l4.1,l4.2.1,l4.2.2) r3.2).bind fun r5=>Wz r5.1 fun n6 b7=>fI n6 fun y8=>fB b7 fun y9=>some (.tuple #[.int .i64 y8,.bool y9],r5.2))
theorem Us (k:Nat) (x1:Option Addr) (x2:Int) (σ:Aa):CU k x1 x2 σ=Ls k x1 x2 σ:=by
 cases k with
 | zero=>simp only[CU,Ab]; rfl
 | succ k=>rw[Ng,Lg,Ls]; simp only[HZ,I4,AZ,AO,Bc,Ba,Bb,Be,Bd,AW,Bf,Ap,Az,Bg,Ah,Ar,Aq,Ak]
theorem TL (k:Nat) (x1:Option Addr) (x2:Int) (σ:Aa):fn P (XK Kn.b) H k 199 [.agg #[],.pointer x1,.int .i64 x2] σ=CU k x1 x2 σ:=by
 simp only[CU,Ab]
noncomputable def JT (k:Nat) (x0_0:Int) (x0_1:Int) (x1_0:Int) (x1_1:Int) (σ:Aa):Option (Value × Aa):=match k with
 | 0=>none
 | k+1=>(fI x0_0 fun x0_0=>fI x0_1 fun x0_1=>fI x1_0 fun x1_0=>fI x1_1 fun x1_1=>fL σ fun σ=>CC σ (.cells [.int .i64 x0_0,.int .i64 x0_1] 51 true) fun h1 s2=>CC s2 (.cells [.int .i64 x1_0,.int .i64 x1_1] 51 true) fun h3 s4=>(Ai .i64 s4 h1 (0+1)).bind fun n5=>(Ai .i64 s4 h3 (0+1)).bind fun n6=>fI (Ac (n5-n6)) fun y7=>some (.int .i64 y7,s4))
theorem SJ (k:Nat) (x0_0:Int) (x0_1:Int) (x1_0:Int) (x1_1:Int) (σ:Aa):CT k x0_0 x0_1 x1_0 x1_1 σ=JT k x0_0 x0_1 x1_0 x1_1 σ:=by
 cases k with
 | zero=>simp only[CT,Ab]; rfl
 | succ k=>rw[Lz,JH,JT]; simp only[AZ,AO,Bc,Ba,Bb,Be,Bd,AW,Bf,Ap,Az,Bg,Ah,Ar,Aq,Ak]
theorem RT (k:Nat) (x0_0:Int) (x0_1:Int) (x1_0:Int) (x1_1:Int) (σ:Aa):fn P (XK Kn.b) H k 206 [.agg #[.int .i64 x0_0,.int .i64 x0_1],.agg #[.int .i64 x1_0,.int .i64 x1_1]] σ=CT k x0_0 x0_1 x1_0 x1_1 σ:=by
 simp only[CT,Ab]
noncomputable def Nx (k:Nat) (n:FuncId) (l:List Value) (σ:Aa):Option (Value × Aa):=
 if n=206 then (match l with
  | [.agg ⟨[.int .i64 y1,.int .i64 y2]⟩,.agg ⟨[.int .i64 y3,.int .i64 y4]⟩]=>JT k y1 y2 y3 y4 σ
  | l=>fn P (XK Kn.b) H k 206 l σ) else
 fn P (XK Kn.b) H k n l σ
theorem Zo (k:Nat) (n:FuncId) (l:List Value) (σ:Aa):fn P (XK Kn.b) H k n l σ=Nx k n l σ:=by
 unfold Nx
 split
 ·rename_i hn; subst hn
  split
  ·exact (RT k _ _ _ _ σ).trans (SJ k _ _ _ _ σ)
  ·rfl
 rfl
noncomputable def Q6 (k:Nat) (f:Value) (args:List Value) (σ:Aa):Option (Value × Aa):=match f with
 | .func (.func n) first cap=>Nx k n (first.toList++args++cap.toList) σ
 | .func (.method nm) first _=>(match first.toList++args with
   | .iface t v::rest=>(Tg P t nm).bind fun n=>Nx k n (v::rest) σ
   | _=>none)
 | _=>none
theorem Pf (k:Nat) (f:Value) (args:List Value) (σ:Aa):CZ k f args σ=Q6 k f args σ:=by
 simp only[CZ,Ab]
 unfold Oz Q6
 simp only[Zo]
 rfl
noncomputable def C2 (k n:Nat) (p0:Option Addr) (c1:Nat) (c2:Nat) (i3:Int) (v4:Value) (x9:Int) (σ:Aa):Option Ay:=match n with
 | 0=>none
 | n+1=>(fP p0 fun p0=>fN c1 fun c1=>fN c2 fun c2=>fI i3 fun i3=>fI x9 fun x9=>fL σ fun σ=>(bif decide (x9>i3) then if 0≤x9∧x9<(c1:Nat) then p0.bind fun a1=>(Ai .i64 σ a1.block (a1.off+x9.toNat*2)).bind fun n2=>(Ai .i64 σ a1.block (a1.off+x9.toNat*2+1)).bind fun n3=>if 0≤(Ac (x9-(1:Int)))∧(Ac (x9-(1:Int)))<(c1:Nat) then p0.bind fun a4=>(Ai .i64 σ a4.block (a4.off+(Ac (x9-(1:Int))).toNat*2)).bind fun n5=>(Ai .i64 σ a4.block (a4.off+(Ac (x9-(1:Int))).toNat*2+1)).bind fun n6=>(Q6 k v4 [.agg #[.int .i64 n2,.int .i64 n3],.agg #[.int .i64 n5,.int .i64 n6]] σ).bind fun r7=>(BF .i64 r7.1).bind fun n8=>some (decide (n8<(0:Int)),r7.2) else none else none else some (false,σ)).bind fun r9=>bif r9.1 then (if 0≤(Ac (x9-(1:Int)))∧(Ac (x9-(1:Int)))<(c1:Nat) then p0.bind fun a10=>(Ai .i64 r9.2 a10.block (a10.off+(Ac (x9-(1:Int))).toNat*2)).bind fun n11=>(Ai .i64 r9.2 a10.block (a10.off+(Ac (x9-(1:Int))).toNat*2+1)).bind fun n12=>if 0≤x9∧x9<(c1:Nat) then p0.bind fun a13=>(Ai .i64 r9.2 a13.block (a13.off+x9.toNat*2)).bind fun n14=>(Ai .i64 r9.2 a13.block (a13.off+x9.toNat*2+1)).bind fun n15=>if 0≤x9∧x9<(c1:Nat) then p0.bind fun a16=>T4 r9.2 a16.block (a16.off+x9.toNat*2) [.int .i64 n11,.int .i64 n12] fun s17=>if 0≤(Ac (x9-(1:Int)))∧(Ac (x9-(1:Int)))<(c1:Nat) then p0.bind fun a18=>T4 s17 a18.block (a18.off+(Ac (x9-(1:Int))).toNat*2) [.int .i64 n14,.int .i64 n15] fun s19=>C2 k n p0 c1 c2 i3 v4 (Ac (x9-(1:Int))) s19 else none else none else none else none) else (some (.exit 2,[],r9.2)))
termination_by structural n
theorem F4 (k n:Nat) (p0:Option Addr) (c1:Nat) (c2:Nat) (i3:Int) (v4:Value) (x9:Int) (σ:Aa):AH k n p0 c1 c2 i3 v4 x9 σ=C2 k n p0 c1 c2 i3 v4 x9 σ:=by
 induction n generalizing p0 c1 c2 i3 v4 x9 σ with
 | zero=>simp only[AH,Ab]; rfl
 | succ n ih=>rw[Dg,Cz,C2]; simp only[Pf,ih,AZ,AO,Bc,Ba,Bb,Be,Bd,AW,Bf,Ap,Az,Bg,Ah,Ar,Aq,Ak]
noncomputable def C1 (k n:Nat) (p0:Option Addr) (c1:Nat) (c2:Nat) (i3:Int) (i4:Int) (v5:Value) (x8:Int) (σ:Aa):Option Ay:=match n with
 | 0=>none
 | n+1=>(fP p0 fun p0=>fN c1 fun c1=>fN c2 fun c2=>fI i3 fun i3=>fI i4 fun i4=>fI x8 fun x8=>fL σ fun σ=>bif decide (x8<i4) then ((C2 k k p0 c1 c2 i3 v5 x8 σ).bind fun r20=>if r20.1 = .exit 2 then (C1 k n p0 c1 c2 i3 i4 v5 (Ac (x8+(1:Int))) r20.2.2) else none) else (some (.exit 0,[],σ)))
termination_by structural n
theorem J8 (k n:Nat) (p0:Option Addr) (c1:Nat) (c2:Nat) (i3:Int) (i4:Int) (v5:Value) (x8:Int) (σ:Aa):AG k n p0 c1 c2 i3 i4 v5 x8 σ=C1 k n p0 c1 c2 i3 i4 v5 x8 σ:=by
 induction n generalizing p0 c1 c2 i3 i4 v5 x8 σ with
 | zero=>simp only[AG,Ab]; rfl
 | succ n ih=>rw[Df,Cy,C1]; simp only[Pf,F4,ih,AZ,AO,Bc,Ba,Bb,Be,Bd,AW,Bf,Ap,Az,Bg,Ah,Ar,Aq,Ak]
noncomputable def CR (k:Nat) (x0:Option Addr × Nat × Nat) (x1:Int) (x2:Int) (x3:Value) (σ:Aa):Option (Value × Aa):=match k with
 | 0=>none
 | k+1=>(fS x0 fun x0=>fI x1 fun x1=>fI x2 fun x2=>fL σ fun σ=>(C1 k k x0.1 x0.2.1 x0.2.2 x1 x2 x3 (Ac (x1+(1:Int))) σ).bind fun r21=>if r21.1 = .exit 0 then (some (.tuple #[],r21.2.2)) else none)
theorem CL (k:Nat) (x0:Option Addr × Nat × Nat) (x1:Int) (x2:Int) (x3:Value) (σ:Aa):A9 k x0 x1 x2 x3 σ=CR k x0 x1 x2 x3 σ:=by
 cases k with
 | zero=>simp only[A9,Ab]; rfl
 | succ k=>rw[DQ,CO,CR]; simp only[Pf,F4,J8,AZ,AO,Bc,Ba,Bb,Be,Bd,AW,Bf,Ap,Az,Bg,Ah,Ar,Aq,Ak]
noncomputable def Fz (k:Nat) (x0:Option Addr × Nat × Nat) (x1:Int) (x2:Int) (x3:Int) (x4:Value) (σ:Aa):Option (Value × Aa):=Ax k x0 x1 x2 x3 x4 σ
theorem DA (k:Nat) (x0:Option Addr × Nat × Nat) (x1:Int) (x2:Int) (x3:Int) (x4:Value) (σ:Aa):Ax k x0 x1 x2 x3 x4 σ=Fz k x0 x1 x2 x3 x4 σ:=rfl
noncomputable def D7 (k n:Nat) (p0:Option Addr) (c1:Nat) (c2:Nat) (i3:Int) (v4:Value) (x7:Int) (x8:Int) (σ:Aa):Option Ay:=match n with
 | 0=>none
 | n+1=>(fP p0 fun p0=>fN c1 fun c1=>fN c2 fun c2=>fI i3 fun i3=>fI x7 fun x7=>fI x8 fun x8=>fL σ fun σ=>bif decide (x8≤i3) then ((CR k (p0,c1,c2) x7 x8 (v4) σ).bind fun r1=>Uj r1.1 (D7 k n p0 c1 c2 i3 v4 x8 (Ac (x8+(20:Int))) r1.2)) else (some (.exit 0,[.int .i64 x7],σ)))
termination_by structural n
theorem ET (k n:Nat) (p0:Option Addr) (c1:Nat) (c2:Nat) (i3:Int) (v4:Value) (x7:Int) (x8:Int) (σ:Aa):AQ k n p0 c1 c2 i3 v4 x7 x8 σ=D7 k n p0 c1 c2 i3 v4 x7 x8 σ:=by
 induction n generalizing p0 c1 c2 i3 v4 x7 x8 σ with
 | zero=>simp only[AQ,Ab]; rfl
 | succ n ih=>rw[E6,D5,D7]; simp only[CL,DA,ih,AZ,AO,Bc,Ba,Bb,Be,Bd,AW,Bf,Ap,Az,Bg,Ah,Ar,Aq,Ak]
noncomputable def D9 (k n:Nat) (p0:Option Addr) (c1:Nat) (c2:Nat) (i3:Int) (v4:Value) (i5:Int) (x7:Int) (x8:Int) (σ:Aa):Option Ay:=match n with
 | 0=>none
 | n+1=>(fP p0 fun p0=>fN c1 fun c1=>fN c2 fun c2=>fI i3 fun i3=>fI i5 fun i5=>fI x7 fun x7=>fI x8 fun x8=>fL σ fun σ=>bif decide (x8≤i3) then ((Fz k (p0,c1,c2) x7 (Ac (x7+i5)) x8 (v4) σ).bind fun r5=>Uj r5.1 (D9 k n p0 c1 c2 i3 v4 i5 x8 (Ac (x8+(Ac ((2:Int)*i5)))) r5.2)) else (some (.exit 4,[.int .i64 x7],σ)))
termination_by structural n
theorem Hi (k n:Nat) (p0:Option Addr) (c1:Nat) (c2:Nat) (i3:Int) (v4:Value) (i5:Int) (x7:Int) (x8:Int) (σ:Aa):Bl k n p0 c1 c2 i3 v4 i5 x7 x8 σ=D9 k n p0 c1 c2 i3 v4 i5 x7 x8 σ:=by
 induction n generalizing p0 c1 c2 i3 v4 i5 x7 x8 σ with
 | zero=>simp only[Bl,Ab]; rfl
 | succ n ih=>rw[GB,Ff,D9]; simp only[CL,DA,ET,ih,AZ,AO,Bc,Ba,Bb,Be,Bd,AW,Bf,Ap,Az,Bg,Ah,Ar,Aq,Ak]
noncomputable def D8 (k n:Nat) (p0:Option Addr) (c1:Nat) (c2:Nat) (i3:Int) (v4:Value) (x6:Int) (σ:Aa):Option Ay:=match n with
 | 0=>none
 | n+1=>(fP p0 fun p0=>fN c1 fun c1=>fN c2 fun c2=>fI i3 fun i3=>fI x6 fun x6=>fL σ fun σ=>bif decide (x6<i3) then ((D9 k k p0 c1 c2 i3 v4 x6 (0:Int) (Ac ((2:Int)*x6)) σ).bind fun r6=>if r6.1 = .exit 4 then (T7 r6.2.1 fun n7=>(bif decide ((Ac (n7+x6))<i3) then ((Fz k (p0,c1,c2) n7 (Ac (n7+x6)) i3 (v4) r6.2.2).bind fun r8=>Uj r8.1 (some (.normal,[],r8.2))) else (some (.normal,[],r6.2.2)):Option Ay).bind fun r9=>if r9.1 = .normal then (D8 k n p0 c1 c2 i3 v4 (Ac (x6*(2:Int))) r9.2.2) else none) else none) else (some (.exit 2,[],σ)))
termination_by structural n
theorem Mw (k n:Nat) (p0:Option Addr) (c1:Nat) (c2:Nat) (i3:Int) (v4:Value) (x6:Int) (σ:Aa):AR k n p0 c1 c2 i3 v4 x6 σ=D8 k n p0 c1 c2 i3 v4 x6 σ:=by
 induction n generalizing p0 c1 c2 i3 v4 x6 σ with
 | zero=>simp only[AR,Ab]; rfl
 | succ n ih=>rw[E7,D6,D8]; simp only[CL,DA,ET,Hi,ih,AZ,AO,Bc,Ba,Bb,Be,Bd,AW,Bf,Ap,Az,Bg,Ah,Ar,Aq,Ak]
noncomputable def Ga (k:Nat) (x0:Option Addr × Nat × Nat) (x1:Int) (x2:Value) (σ:Aa):Option (Value × Aa):=match k with
 | 0=>none
 | k+1=>(fS x0 fun x0=>fI x1 fun x1=>fL σ fun σ=>(D7 k k x0.1 x0.2.1 x0.2.2 x1 x2 (0:Int) (20:Int) σ).bind fun r2=>if r2.1 = .exit 0 then (T7 r2.2.1 fun n3=>(CR k (x0.1,x0.2.1,x0.2.2) n3 x1 (x2) r2.2.2).bind fun r4=>Uj r4.1 ((D8 k k x0.1 x0.2.1 x0.2.2 x1 x2 (20:Int) r4.2).bind fun r10=>if r10.1 = .exit 2 then (some (.tuple #[],r10.2.2)) else none)) else none)
theorem N6 (k:Nat) (x0:Option Addr × Nat × Nat) (x1:Int) (x2:Value) (σ:Aa):Ch k x0 x1 x2 σ=Ga k x0 x1 x2 σ:=by
 cases k with
 | zero=>simp only[Ch,Ab]; rfl
 | succ k=>rw[Fg,Eo,Ga]; simp only[CL,DA,ET,Hi,Mw,AZ,AO,Bc,Ba,Bb,Be,Bd,AW,Bf,Ap,Az,Bg,Ah,Ar,Aq,Ak]
noncomputable def F6 (k:Nat) (x0:Option Addr × Nat × Nat) (x1:Value) (σ:Aa):Option (Value × Aa):=match k with
 | 0=>none
 | k+1=>(fS x0 fun x0=>fL σ fun σ=>(Ga k (x0.1,x0.2.1,x0.2.2) ((x0.2.1:Nat):Int) (x1) σ).bind fun r1=>Uj r1.1 (some (.tuple #[],r1.2)))
theorem N4 (k:Nat) (x0:Option Addr × Nat × Nat) (x1:Value) (σ:Aa):Bh k x0 x1 σ=F6 k x0 x1 σ:=by
 cases k with
 | zero=>simp only[Bh,Ab]; rfl
 | succ k=>rw[ER,Ed,F6]; simp only[N6,AZ,AO,Bc,Ba,Bb,Be,Bd,AW,Bf,Ap,Az,Bg,Ah,Ar,Aq,Ak]
noncomputable def Mn (k:Nat) (x1:Option Addr) (x2:Int) (σ:Aa):Option (Value × Aa):=match k with
 | 0=>none
 | k+1=>(fP x1 fun x1=>fI x2 fun x2=>fL σ fun σ=>CC σ (.cells [] 151 true) fun h1 s2=>(Ex k x1 (0:Int) x2 s2).bind fun r3=>(Hm r3.1).bind fun l4=>(F6 k (l4.1,l4.2.1,l4.2.2) (.func (.func 206) #[] #[]) r3.2).bind fun r5=>Uj r5.1 ((Fb k x1 (l4.1,l4.2.1,l4.2.2) r5.2).bind fun r6=>Wz r6.1 fun n7 b8=>fI n7 fun y9=>fB b8 fun y10=>some (.tuple #[.int .i64 y9,.bool y10],r6.2)))
theorem Vv (k:Nat) (x1:Option Addr) (x2:Int) (σ:Aa):Ds k x1 x2 σ=Mn k x1 x2 σ:=by
 cases k with
 | zero=>simp only[Ds,Ab]; rfl
 | succ k=>rw[N8,LV,Mn]; simp only[HZ,I4,N4,AZ,AO,Bc,Ba,Bb,Be,Bd,AW,Bf,Ap,Az,Bg,Ah,Ar,Aq,Ak]
theorem Uq (k:Nat) (x1:Option Addr) (x2:Int) (σ:Aa):fn P (XK Kn.b) H k 204 [.agg #[],.pointer x1,.int .i64 x2] σ=Ds k x1 x2 σ:=by
 simp only[Ds,Ab]
noncomputable def Mp (k:Nat) (x1:Option Addr) (x2:Int) (σ:Aa):Option (Value × Aa):=match k with
 | 0=>none
 | k+1=>(fP x1 fun x1=>fI x2 fun x2=>fL σ fun σ=>CC σ (.cells [] 152 true) fun h1 s2=>x1.bind fun a3=>(Ai .i64 s2 a3.block (a3.off+3+0)).bind fun n4=>(Ex k x1 n4 x2 s2).bind fun r5=>(Hm r5.1).bind fun l6=>(Ex k x1 (0:Int) x2 r5.2).bind fun r7=>(Hm r7.1).bind fun l8=>(Bn P 51 (l6.1,l6.2.1,l6.2.2) (l8.1,l8.2.1,l8.2.2) r7.2).bind fun r9=>fR r9 fun r9=>(Fb k x1 (r9.1.1,r9.1.2.1,r9.1.2.2) r9.2).bind fun r10=>Wz r10.1 fun n11 b12=>(bif b12 then (x1.bind fun a13=>VC r10.2 a13.block (a13.off+3+0) (.int .i64 (Ac (n11+x2))) fun s14=>some (.normal,[],s14)) else (some (.normal,[],r10.2)):Option Ay).bind fun r15=>if r15.1 = .normal then (fI n11 fun y16=>fB b12 fun y17=>some (.tuple #[.int .i64 y16,.bool y17],r15.2.2)) else none)
theorem Vx (k:Nat) (x1:Option Addr) (x2:Int) (σ:Aa):Du k x1 x2 σ=Mp k x1 x2 σ:=by
 cases k with
 | zero=>simp only[Du,Ab]; rfl
 | succ k=>rw[NA,LX,Mp]; simp only[HZ,I4,AZ,AO,Bc,Ba,Bb,Be,Bd,AW,Bf,Ap,Az,Bg,Ah,Ar,Aq,Ak]
theorem Uu (k:Nat) (x1:Option Addr) (x2:Int) (σ:Aa):fn P (XK Kn.b) H k 212 [.agg #[],.pointer x1,.int .i64 x2] σ=Du k x1 x2 σ:=by
 simp only[Du,Ab]
noncomputable def KQ (k:Nat) (x0:Option Addr) (x1:Int) (σ:Aa):Option (Value × Aa):=match k with
 | 0=>none
 | k+1=>(fP x0 fun x0=>fI x1 fun x1=>fL σ fun σ=>x0.bind fun a1=>(Ai .i64 σ a1.block (a1.off+1)).bind fun n2=>x0.bind fun a3=>(Ai .i64 σ a3.block (a3.off+0)).bind fun n4=>fB (decide ((Ac (n2-n4))≥x1)) fun y5=>some (.bool y5,σ))
theorem QP (k:Nat) (x0:Option Addr) (x1:Int) (σ:Aa):DD k x0 x1 σ=KQ k x0 x1 σ:=by
 cases k with
 | zero=>simp only[DD,Ab]; rfl
 | succ k=>rw[Po,NO,KQ]; simp only[AZ,AO,Bc,Ba,Bb,Be,Bd,AW,Bf,Ap,Az,Bg,Ah,Ar,Aq,Ak]
noncomputable def Kb (k:Nat) (x0:Option Addr) (x1:Int) (σ:Aa):Option (Value × Aa):=match k with
 | 0=>none
 | k+1=>(fP x0 fun x0=>fI x1 fun x1=>fL σ fun σ=>x0.bind fun a1=>(Ai .i64 σ a1.block (a1.off+0)).bind fun n2=>x0.bind fun a3=>VC σ a3.block (a3.off+0) (.int .i64 (Ac (n2+x1))) fun s4=>x0.bind fun a5=>(Ai .i64 s4 a5.block (a5.off+0)).bind fun n6=>fI (Ac (n6-x1)) fun y7=>some (.int .i64 y7,s4))
theorem PO (k:Nat) (x0:Option Addr) (x1:Int) (σ:Aa):De k x0 x1 σ=Kb k x0 x1 σ:=by
 cases k with
 | zero=>simp only[De,Ab]; rfl
 | succ k=>rw[OB,MP,Kb]; simp only[AZ,AO,Bc,Ba,Bb,Be,Bd,AW,Bf,Ap,Az,Bg,Ah,Ar,Aq,Ak]
noncomputable def Gj (k:Nat) (x0:Option Addr) (x1:Option Addr) (x2:Int) (σ:Aa):Option (Value × Aa):=match k with
 | 0=>none
 | k+1=>(fP x0 fun x0=>fP x1 fun x1=>fI x2 fun x2=>fL σ fun σ=>(KQ k x1 x2 σ).bind fun r1=>(DY r1.1).bind fun b2=>(bif !b2 then ((Fa k x0 r1.2).bind fun r3=>(Zg r3.1).bind fun q4=>if q4.length=2 then q4.head?.bind fun v5=>bX v5 fun n6 n7=>q4.tail.head?.bind fun v8=>(DY v8).bind fun b9=>CC r3.2 (.cells [.int .i64 (0:Int),.int .i64 (0:Int)] 120 true) fun h10 s11=>T4 s11 h10 0 [.int .i64 n6,.int .i64 n7] fun s12=>bif !b9 then (some (.ret,[.int .i64 (0:Int),.bool false],s12)) else ((Ai .i64 s12 h10 0).bind fun n13=>(Ai .i64 s12 h10 (0+1)).bind fun n14=>x1.bind fun a15=>T4 s12 a15.block a15.off [.int .i64 n13,.int .i64 n14] fun s16=>some (.normal,[],s16)) else none) else (some (.normal,[],r1.2)):Option Ay).bind fun r17=>if r17.1 = .normal then ((Kb k x1 x2 r17.2.2).bind fun r18=>(BF .i64 r18.1).bind fun n19=>fI n19 fun y20=>fB true fun y21=>some (.tuple #[.int .i64 y20,.bool y21],r18.2)) else if r17.1 = .ret then (cn r17.2.1 fun n22 b23=>fI n22 fun y24=>fB b23 fun y25=>some (.tuple #[.int .i64 y24,.bool y25],r17.2.2)) else none)
theorem KV (k:Nat) (x0:Option Addr) (x1:Option Addr) (x2:Int) (σ:Aa):Bw k x0 x1 x2 σ=Gj k x0 x1 x2 σ:=by
 cases k with
 | zero=>simp only[Bw,Ab]; rfl
 | succ k=>rw[JZ,Ib,Gj]; simp only[DB,QP,PO,AZ,AO,Bc,Ba,Bb,Be,Bd,AW,Bf,Ap,Az,Bg,Ah,Ar,Aq,Ak]
noncomputable def Mo (k:Nat) (x1:Option Addr) (x2:Int) (σ:Aa):Option (Value × Aa):=match k with
 | 0=>none
 | k+1=>(fP x1 fun x1=>fI x2 fun x2=>fL σ fun σ=>CC σ (.cells [] 153 true) fun h1 s2=>x1.bind fun a3=>(Gj k x1 (some ⟨a3.block,a3.off+3,none⟩) x2 s2).bind fun r4=>Wz r4.1 fun n5 b6=>fI n5 fun y7=>fB b6 fun y8=>some (.tuple #[.int .i64 y7,.bool y8],r4.2))
theorem Vw (k:Nat) (x1:Option Addr) (x2:Int) (σ:Aa):Dt k x1 x2 σ=Mo k x1 x2 σ:=by
 cases k with
 | zero=>simp only[Dt,Ab]; rfl
 | succ k=>rw[N9,LW,Mo]; simp only[KV,AZ,AO,Bc,Ba,Bb,Be,Bd,AW,Bf,Ap,Az,Bg,Ah,Ar,Aq,Ak]
theorem Ur (k:Nat) (x1:Option Addr) (x2:Int) (σ:Aa):fn P (XK Kn.b) H k 213 [.agg #[],.pointer x1,.int .i64 x2] σ=Dt k x1 x2 σ:=by
 simp only[Dt,Ab]
noncomputable def HR (k n:Nat) (h0:Nat) (c1:Nat) (i2:Int) (x10:Int) (σ:Aa):Option Ay:=match n with
 | 0=>none
 | n+1=>(fN h0 fun h0=>fN c1 fun c1=>fI i2 fun i2=>fI x10 fun x10=>fL σ fun σ=>if (8:Int)=0 then none else bif decide (x10≤(Ac (i2.tdiv (8:Int)))) then (if 0≤x10∧x10<(c1:Nat) then VC σ h0 (0+x10.toNat*1) (.bool true) fun s11=>HR k n h0 c1 i2 (Ac (x10+(1:Int))) s11 else none) else (some (.exit 2,[],σ)))
termination_by structural n
theorem NJ (k n:Nat) (h0:Nat) (c1:Nat) (i2:Int) (x10:Int) (σ:Aa):Dj k n h0 c1 i2 x10 σ=HR k n h0 c1 i2 x10 σ:=by
 induction n generalizing h0 c1 i2 x10 σ with
 | zero=>simp only[Dj,Ab]; rfl
 | succ n ih=>rw[IE,HA,HR]; simp only[Gq,HL,Fu,ih,AZ,AO,Bc,Ba,Bb,Be,Bd,AW,Bf,Ap,Az,Bg,Ah,Ar,Aq,Ak]
noncomputable def HQ (k n:Nat) (p0:Option Addr) (h1:Nat) (c2:Nat) (p3:Option Addr) (c4:Nat) (c5:Nat) (i6:Int) (x20:Int) (σ:Aa):Option Ay:=match n with
 | 0=>none
 | n+1=>(fP p0 fun p0=>fN h1 fun h1=>fN c2 fun c2=>fP p3 fun p3=>fN c4 fun c4=>fN c5 fun c5=>fI i6 fun i6=>fI x20 fun x20=>fL σ fun σ=>bif decide (x20<i6) then (if 0≤x20∧x20<(c4:Nat) then p3.bind fun a7=>(Ai .i64 σ a7.block (a7.off+x20.toNat*1)).bind fun n8=>if (64:Int)=0 then none else if (64:Int)=0 then none else (GU k p0 n8 σ).bind fun r9=>(BF .i64 r9.1).bind fun n10=>if (8:Int)=0 then none else (HR k k h1 c2 (Ac ((Ac ((n8.tmod (64:Int))+n10))-(1:Int))) (Ac ((n8.tmod (64:Int)).tdiv (8:Int))) r9.2).bind fun r12=>if r12.1 = .exit 2 then (HQ k n p0 h1 c2 p3 c4 c5 i6 (Ac (x20+(1:Int))) r12.2.2) else none else none) else (some (.exit 0,[],σ)))
termination_by structural n
theorem Ub (k n:Nat) (p0:Option Addr) (h1:Nat) (c2:Nat) (p3:Option Addr) (c4:Nat) (c5:Nat) (i6:Int) (x20:Int) (σ:Aa):Di k n p0 h1 c2 p3 c4 c5 i6 x20 σ=HQ k n p0 h1 c2 p3 c4 c5 i6 x20 σ:=by
 induction n generalizing p0 h1 c2 p3 c4 c5 i6 x20 σ with
 | zero=>simp only[Di,Ab]; rfl
 | succ n ih=>rw[ID,H9,HQ]; simp only[Gq,HL,Fu,NJ,ih,AZ,AO,Bc,Ba,Bb,Be,Bd,AW,Bf,Ap,Az,Bg,Ah,Ar,Aq,Ak]
noncomputable def Ny (k:Nat) (x0:Option Addr) (x1:Int) (σ:Aa):Option (Value × Aa):=match k with
 | 0=>none
 | k+1=>(fP x0 fun x0=>fI x1 fun x1=>fL σ fun σ=>(KS k x0 x1 σ).bind fun r1=>(DY r1.1).bind fun b2=>bif !b2 then (some (.slice none 0 0,r1.2)) else (if 0≤(8:Int)∧(8:Int)≤(8:Int)∧(8:Int)*(1:Nat)≤2 ^ 40∧(8:Int)≤2 ^ 40 then CC r1.2 (.cells (rep (8:Int).toNat [.bool false]) 4 true) fun h3 s4=>(Iy k x0 x1 s4).bind fun r5=>(Hm r5.1).bind fun l6=>(HQ k k x0 h3 ((8:Int).toNat) l6.1 l6.2.1 l6.2.2 ((l6.2.1:Nat):Int) (0:Int) r5.2).bind fun r13=>if r13.1 = .exit 0 then (some (.slice (some ⟨h3,0,none⟩) ((8:Int).toNat) ((8:Int).toNat),r13.2.2)) else none else none))
theorem Ju (k:Nat) (x0:Option Addr) (x1:Int) (σ:Aa):Cm k x0 x1 σ=Ny k x0 x1 σ:=by
 cases k with
 | zero=>simp only[Cm,Ab]; rfl
 | succ k=>rw[HF,H8,Ny]; simp only[Gq,HL,Fu,NJ,Ub,AZ,AO,Bc,Ba,Bb,Be,Bd,AW,Bf,Ap,Az,Bg,Ah,Ar,Aq,Ak]
noncomputable def FJ (k n:Nat) (p0:Option Addr) (c1:Nat) (c2:Nat) (x8:Int) (σ:Aa):Option Ay:=match n with
 | 0=>none
 | n+1=>(fP p0 fun p0=>fN c1 fun c1=>fN c2 fun c2=>fI x8 fun x8=>fL σ fun σ=>(bif decide (x8<((c1:Nat):Int)) then if 0≤x8∧x8<(c1:Nat) then p0.bind fun a11=>(Wu σ a11.block (a11.off+x8.toNat*1)).bind fun b12=>some (!b12,σ) else none else some (false,σ)).bind fun r13=>bif r13.1 then (FJ k n p0 c1 c2 (Ac (x8+(1:Int))) r13.2) else (some (.exit 4,[.int .i64 x8],r13.2)))
termination_by structural n
theorem GW (k n:Nat) (p0:Option Addr) (c1:Nat) (c2:Nat) (x8:Int) (σ:Aa):BZ k n p0 c1 c2 x8 σ=FJ k n p0 c1 c2 x8 σ:=by
 induction n generalizing p0 c1 c2 x8 σ with
 | zero=>simp only[BZ,Ab]; rfl
 | succ n ih=>rw[G5,FA,FJ]; simp only[Ju,DB,C9,ih,AZ,AO,Bc,Ba,Bb,Be,Bd,AW,Bf,Ap,Az,Bg,Ah,Ar,Aq,Ak]
noncomputable def FI (k n:Nat) (p0:Option Addr) (h1:Nat) (i2:Int) (p3:Option Addr) (c4:Nat) (c5:Nat) (x7:Int) (σ:Aa):Option Ay:=match n with
 | 0=>none
 | n+1=>(fP p0 fun p0=>fN h1 fun h1=>fI i2 fun i2=>fP p3 fun p3=>fN c4 fun c4=>fN c5 fun c5=>fI x7 fun x7=>fL σ fun σ=>bif decide (x7<((c4:Nat):Int)) then ((FJ k k p3 c4 c5 x7 σ).bind fun r14=>if r14.1 = .exit 4 then (T7 r14.2.1 fun n15=>(bif decide (n15>x7) then p0.bind fun a16=>(Ai .i64 r14.2.2 a16.block (a16.off+3+1)).bind fun n17=>some (decide ((Ac ((Ac (i2*(64:Int)))+(Ac (x7*(8:Int)))))≥n17),r14.2.2) else some (false,r14.2.2)).bind fun r18=>bif r18.1 then (T4 r18.2 h1 0 [.int .i64 (Ac ((Ac (i2*(64:Int)))+(Ac (x7*(8:Int))))),.int .i64 (Ac ((Ac (i2*(64:Int)))+(Ac (n15*(8:Int)))))] fun s19=>some (.ret,[.bool true],s19)) else (FI k n p0 h1 i2 p3 c4 c5 (Ac ((if n15>x7 then n15 else x7)+(1:Int))) r18.2)) else none) else (some (.exit 2,[],σ)))
termination_by structural n
theorem Km (k n:Nat) (p0:Option Addr) (h1:Nat) (i2:Int) (p3:Option Addr) (c4:Nat) (c5:Nat) (x7:Int) (σ:Aa):BX k n p0 h1 i2 p3 c4 c5 x7 σ=FI k n p0 h1 i2 p3 c4 c5 x7 σ:=by
 induction n generalizing p0 h1 i2 p3 c4 c5 x7 σ with
 | zero=>simp only[BX,Ab]; rfl
 | succ n ih=>rw[J5,Ht,FI]; simp only[Ju,DB,C9,GW,ih,AZ,AO,Bc,Ba,Bb,Be,Bd,AW,Bf,Ap,Az,Bg,Ah,Ar,Aq,Ak]
noncomputable def FH (k n:Nat) (p0:Option Addr) (h1:Nat) (p2:Option Addr) (c3:Nat) (c4:Nat) (i5:Int) (x13:Int) (σ:Aa):Option Ay:=match n with
 | 0=>none
 | n+1=>(fP p0 fun p0=>fN h1 fun h1=>fP p2 fun p2=>fN c3 fun c3=>fN c4 fun c4=>fI i5 fun i5=>fI x13 fun x13=>fL σ fun σ=>bif decide (x13<i5) then (if 0≤x13∧x13<(c3:Nat) then p2.bind fun a5=>(Ai .i64 σ a5.block (a5.off+x13.toNat*1)).bind fun n6=>p0.bind fun a7=>(Jb σ a7.block (a7.off+0)).bind fun p8=>(Ny k p8 n6 σ).bind fun r9=>(Hm r9.1).bind fun l10=>(FI k k p0 h1 n6 l10.1 l10.2.1 l10.2.2 (0:Int) r9.2).bind fun r20=>if r20.1 = .exit 2 then (FH k n p0 h1 p2 c3 c4 i5 (Ac (x13+(1:Int))) r20.2.2) else if r20.1 = .ret then (m6 r20.2.1 fun b21=>some (.ret,[.bool b21],r20.2.2)) else none else none) else (some (.exit 0,[],σ)))
termination_by structural n
theorem PN (k n:Nat) (p0:Option Addr) (h1:Nat) (p2:Option Addr) (c3:Nat) (c4:Nat) (i5:Int) (x13:Int) (σ:Aa):BE k n p0 h1 p2 c3 c4 i5 x13 σ=FH k n p0 h1 p2 c3 c4 i5 x13 σ:=by
 induction n generalizing p0 h1 p2 c3 c4 i5 x13 σ with
 | zero=>simp only[BE,Ab]; rfl
 | succ n ih=>rw[G4,F9,FH]; simp only[Ju,DB,C9,GW,Km,ih,AZ,AO,Bc,Ba,Bb,Be,Bd,AW,Bf,Ap,Az,Bg,Ah,Ar,Aq,Ak]
noncomputable def Jz (k:Nat) (x0:Option Addr) (σ:Aa):Option (Value × Aa):=match k with
 | 0=>none
 | k+1=>(fP x0 fun x0=>fL σ fun σ=>CC σ (.cells [.int .i64 (0:Int),.int .i64 (0:Int)] 120 true) fun h1 s2=>(Gi k x0 s2).bind fun r3=>(Hm r3.1).bind fun l4=>(FH k k x0 h1 l4.1 l4.2.1 l4.2.2 ((l4.2.1:Nat):Int) (0:Int) r3.2).bind fun r22=>if r22.1 = .exit 0 then ((Fa k x0 r22.2.2).bind fun r23=>(Zg r23.1).bind fun q24=>if q24.length=2 then q24.head?.bind fun v25=>bX v25 fun n26 n27=>q24.tail.head?.bind fun v28=>(DY v28).bind fun b29=>T4 r23.2 h1 0 [.int .i64 n26,.int .i64 n27] fun s30=>(((Ue s30 h1 0 2).bind fun v31=>some (.agg v31.toArray)).bind fun v32=>some [v32,.bool b29]).bind fun vs33=>some (Q3 vs33,s30) else none) else if r22.1 = .ret then (m6 r22.2.1 fun b34=>(((Ue r22.2.2 h1 0 2).bind fun v35=>some (.agg v35.toArray)).bind fun v36=>some [v36,.bool b34]).bind fun vs37=>some (Q3 vs37,r22.2.2)) else none)
theorem RR (k:Nat) (x0:Option Addr) (σ:Aa):CE k x0 σ=Jz k x0 σ:=by
 cases k with
 | zero=>simp only[CE,Ab]; rfl
 | succ k=>rw[KY,Ji,Jz]; simp only[Ju,DB,C9,GW,Km,PN,AZ,AO,Bc,Ba,Bb,Be,Bd,AW,Bf,Ap,Az,Bg,Ah,Ar,Aq,Ak]
noncomputable def Lt (k:Nat) (x1:Option Addr) (x2:Int) (σ:Aa):Option (Value × Aa):=match k with
 | 0=>none
 | k+1=>(fP x1 fun x1=>fI x2 fun x2=>fL σ fun σ=>CC σ (.cells [] 154 true) fun h1 s2=>x1.bind fun a3=>(KQ k (some ⟨a3.block,a3.off+3,none⟩) x2 s2).bind fun r4=>(DY r4.1).bind fun b5=>(bif b5 then (some (.normal,[],r4.2)) else (bif decide (x2>(8:Int)) then (x1.bind fun a6=>(Gj k x1 (some ⟨a6.block,a6.off+5,none⟩) x2 r4.2).bind fun r7=>Wz r7.1 fun n8 b9=>some (.ret,[.int .i64 n8,.bool b9],r7.2)) else ((Jz k x1 r4.2).bind fun r10=>(Zg r10.1).bind fun q11=>if q11.length=2 then q11.head?.bind fun v12=>bX v12 fun n13 n14=>q11.tail.head?.bind fun v15=>(DY v15).bind fun b16=>CC r10.2 (.cells [.int .i64 (0:Int),.int .i64 (0:Int)] 120 true) fun h17 s18=>T4 s18 h17 0 [.int .i64 n13,.int .i64 n14] fun s19=>bif !b16 then (some (.ret,[.int .i64 (0:Int),.bool false],s19)) else ((Ai .i64 s19 h17 0).bind fun n20=>(Ai .i64 s19 h17 (0+1)).bind fun n21=>x1.bind fun a22=>T4 s19 a22.block (a22.off+3) [.int .i64 n20,.int .i64 n21] fun s23=>some (.normal,[],s23)) else none)):Option Ay).bind fun r24=>if r24.1 = .normal then (x1.bind fun a25=>(Kb k (some ⟨a25.block,a25.off+3,none⟩) x2 r24.2.2).bind fun r26=>(BF .i64 r26.1).bind fun n27=>fI n27 fun y28=>fB true fun y29=>some (.tuple #[.int .i64 y28,.bool y29],r26.2)) else if r24.1 = .ret then (cn r24.2.1 fun n30 b31=>fI n30 fun y32=>fB b31 fun y33=>some (.tuple #[.int .i64 y32,.bool y33],r24.2.2)) else none)
theorem Ut (k:Nat) (x1:Option Addr) (x2:Int) (σ:Aa):CV k x1 x2 σ=Lt k x1 x2 σ:=by
 cases k with
 | zero=>simp only[CV,Ab]; rfl
 | succ k=>rw[Nh,Lh,Lt]; simp only[KV,QP,PO,RR,AZ,AO,Bc,Ba,Bb,Be,Bd,AW,Bf,Ap,Az,Bg,Ah,Ar,Aq,Ak]
theorem TM (k:Nat) (x1:Option Addr) (x2:Int) (σ:Aa):fn P (XK Kn.b) H k 217 [.agg #[],.pointer x1,.int .i64 x2] σ=CV k x1 x2 σ:=by
 simp only[CV,Ab]
noncomputable def O3 (k:Nat) (n:FuncId) (l:List Value) (σ:Aa):Option (Value × Aa):=
 if n=99 then (match l with
  | [.pointer y1,.int .i64 y2]=>IQ k y1 y2 σ
  | l=>fn P (XK Kn.b) H k 99 l σ) else
 if n=199 then (match l with
  | [.agg ⟨[]⟩,.pointer y1,.int .i64 y2]=>Ls k y1 y2 σ
  | l=>fn P (XK Kn.b) H k 199 l σ) else
 if n=204 then (match l with
  | [.agg ⟨[]⟩,.pointer y1,.int .i64 y2]=>Mn k y1 y2 σ
  | l=>fn P (XK Kn.b) H k 204 l σ) else
 if n=212 then (match l with
  | [.agg ⟨[]⟩,.pointer y1,.int .i64 y2]=>Mp k y1 y2 σ
  | l=>fn P (XK Kn.b) H k 212 l σ) else
 if n=213 then (match l with
  | [.agg ⟨[]⟩,.pointer y1,.int .i64 y2]=>Mo k y1 y2 σ
  | l=>fn P (XK Kn.b) H k 213 l σ) else
 if n=217 then (match l with
  | [.agg ⟨[]⟩,.pointer y1,.int .i64 y2]=>Lt k y1 y2 σ
  | l=>fn P (XK Kn.b) H k 217 l σ) else
 fn P (XK Kn.b) H k n l σ
theorem ZZ (k:Nat) (n:FuncId) (l:List Value) (σ:Aa):fn P (XK Kn.b) H k n l σ=O3 k n l σ:=by
 unfold O3
 split
 ·rename_i hn; subst hn
  split
  ·exact (QE k _ _ σ).trans (Ru k _ _ σ)
  ·rfl
 split
 ·rename_i hn; subst hn
  split
  ·exact (TL k _ _ σ).trans (Us k _ _ σ)
  ·rfl
 split
 ·rename_i hn; subst hn
  split
  ·exact (Uq k _ _ σ).trans (Vv k _ _ σ)
  ·rfl
 split
 ·rename_i hn; subst hn
  split
  ·exact (Uu k _ _ σ).trans (Vx k _ _ σ)
  ·rfl
 split
 ·rename_i hn; subst hn
  split
  ·exact (Ur k _ _ σ).trans (Vw k _ _ σ)
  ·rfl
 split
 ·rename_i hn; subst hn
  split
  ·exact (TM k _ _ σ).trans (Ut k _ _ σ)
  ·rfl
 rfl
noncomputable def RB (k:Nat) (f:Value) (args:List Value) (σ:Aa):Option (Value × Aa):=match f with
 | .func (.func n) first cap=>O3 k n (first.toList++args++cap.toList) σ
 | .func (.method nm) first _=>(match first.toList++args with
   | .iface t v::rest=>(Tg P t nm).bind fun n=>O3 k n (v::rest) σ
   | _=>none)
 | _=>none
theorem aa (k:Nat) (f:Value) (args:List Value) (σ:Aa):Cf k f args σ=RB k f args σ:=by
 simp only[Cf,Ab]
 unfold Oz RB
 simp only[ZZ]
 rfl
noncomputable def Bt (k:Nat) (x0:Option Addr) (x1_0:Int) (x1_1:Int) (x1_2:Int) (σ:Aa):Option (Value × Aa):=match k with
 | 0=>none
 | k+1=>(fP x0 fun x0=>fI x1_0 fun x1_0=>fI x1_1 fun x1_1=>fI x1_2 fun x1_2=>fL σ fun σ=>CC σ (.cells [.int .i64 x1_0,.int .i64 x1_1,.int .i64 x1_2] 33 true) fun h1 s2=>(J0 k x0 s2).bind fun r3=>(DY r3.1).bind fun b4=>bif !b4 then (fI (0:Int) fun y5=>fI (5:Int) fun y6=>some (.tuple #[.int .i64 y5,.int .i64 y6],r3.2)) else ((Ai .i64 r3.2 h1 0).bind fun n7=>(Ai .i64 r3.2 h1 (0+1)).bind fun n8=>(Ai .i64 r3.2 h1 (0+1+1)).bind fun n9=>(N0 k n7 n8 n9 r3.2).bind fun r10=>(DY r10.1).bind fun b11=>bif !b11 then (fI (0:Int) fun y12=>fI (2:Int) fun y13=>some (.tuple #[.int .i64 y12,.int .i64 y13],r10.2)) else ((Ai .i64 r10.2 h1 0).bind fun n14=>(Ai .i64 r10.2 h1 (0+1)).bind fun n15=>(Ai .i64 r10.2 h1 (0+1+1)).bind fun n16=>(N1 k n14 n15 n16 r10.2).bind fun r17=>(BF .i64 r17.1).bind fun n18=>(KR k  r17.2).bind fun r19=>(Hm r19.1).bind fun l20=>x0.bind fun a21=>(Ai .i64 r19.2 a21.block (a21.off+2)).bind fun n22=>if 0≤n22∧n22<(l20.2.1:Nat) then l20.1.bind fun a23=>(Gs r19.2 a23.block (a23.off+n22.toNat*1)).bind fun v24=>nM v24 fun v25=>(bif decide (n18>(32:Int)) then (some (.normal,[.func (.func 99) #[] #[]],r19.2)) else (some (.normal,[(.func (.method "dustcart/alloc.place") #[v25] #[])],r19.2)):Option Ay).bind fun r26=>if r26.1 = .normal then (rV r26.2.1 fun f27=>x0.bind fun a28=>(Jb r26.2.2 a28.block a28.off).bind fun p29=>(Ai .i64 r26.2.2 a28.block (a28.off+1)).bind fun n30=>(Ai .i64 r26.2.2 a28.block (a28.off+1+1)).bind fun n31=>(Ai .i64 r26.2.2 a28.block (a28.off+1+1+1)).bind fun n32=>(Ai .i64 r26.2.2 a28.block (a28.off+1+1+1+1)).bind fun n33=>(Ai .i64 r26.2.2 a28.block (a28.off+1+1+1+1+1)).bind fun n34=>(Ai .i64 r26.2.2 a28.block (a28.off+1+1+1+1+1+1)).bind fun n35=>CC r26.2.2 (.cells [.pointer none,.int .i64 (0:Int),.int .i64 (0:Int),.int .i64 (0:Int),.int .i64 (0:Int),.int .i64 (0:Int),.int .i64 (0:Int)] 122 true) fun h36 s37=>T4 s37 h36 0 [.pointer p29,.int .i64 n30,.int .i64 n31,.int .i64 n32,.int .i64 n33,.int .i64 n34,.int .i64 n35] fun s38=>(RB k f27 [.pointer x0,.int .i64 n18] s38).bind fun r39=>Wz r39.1 fun n40 b41=>bif !b41 then (fI (0:Int) fun y42=>fI (6:Int) fun y43=>some (.tuple #[.int .i64 y42,.int .i64 y43],r39.2)) else (x0.bind fun a44=>(Jb r39.2 a44.block (a44.off+0)).bind fun p45=>if (64:Int)=0 then none else (Kf k p45 (Ac (n40.tdiv (64:Int))) r39.2).bind fun r46=>(BF .i64 r46.1).bind fun n47=>x0.bind fun a48=>(Ai .i64 r46.2 a48.block (a48.off+1)).bind fun n49=>(bif n47 == n49 then (x0.bind fun a50=>(Jb r46.2 a50.block (a50.off+0)).bind fun p51=>(Ai .i64 r46.2 h1 0).bind fun n52=>(Ai .i64 r46.2 h1 (0+1)).bind fun n53=>(Ai .i64 r46.2 h1 (0+1+1)).bind fun n54=>(Ke k p51 n40 n52 n53 n54 r46.2).bind fun r55=>Gt r55.1 fun n56 n57=>some (.normal,[.int .i64 n57],r55.2)) else (some (.normal,[.int .i64 (5:Int)],r46.2)):Option Ay).bind fun r58=>if r58.1 = .normal then (T7 r58.2.1 fun n59=>bif n59 != (0:Int) then ((Jb r58.2.2 h36 0).bind fun p60=>(Ai .i64 r58.2.2 h36 (0+1)).bind fun n61=>(Ai .i64 r58.2.2 h36 (0+1+1)).bind fun n62=>(Ai .i64 r58.2.2 h36 (0+1+1+1)).bind fun n63=>(Ai .i64 r58.2.2 h36 (0+1+1+1+1)).bind fun n64=>(Ai .i64 r58.2.2 h36 (0+1+1+1+1+1)).bind fun n65=>(Ai .i64 r58.2.2 h36 (0+1+1+1+1+1+1)).bind fun n66=>x0.bind fun a67=>T4 r58.2.2 a67.block a67.off [.pointer p60,.int .i64 n61,.int .i64 n62,.int .i64 n63,.int .i64 n64,.int .i64 n65,.int .i64 n66] fun s68=>fI (0:Int) fun y69=>fI (6:Int) fun y70=>some (.tuple #[.int .i64 y69,.int .i64 y70],s68)) else (fI n40 fun y71=>fI (0:Int) fun y72=>some (.tuple #[.int .i64 y71,.int .i64 y72],r58.2.2))) else none)) else none else none)))
theorem Rt (k:Nat) (x0:Option Addr) (x1_0:Int) (x1_1:Int) (x1_2:Int) (σ:Aa):AM k x0 x1_0 x1_1 x1_2 σ=Bt k x0 x1_0 x1_1 x1_2 σ:=by
 cases k with
 | zero=>simp only[AM,Ab]; rfl
 | succ k=>rw[Kx,I5,Bt]; simp only[R8,R6,Mg,Qs,RS,QQ,aa,AZ,AO,Bc,Ba,Bb,Be,Bd,AW,Bf,Ap,Az,Bg,Ah,Ar,Aq,Ak]
noncomputable def Rm (k:Nat) (x0:Option Addr) (x1:Int) (x2:Int) (σ:Aa):Option (Value × Aa):=match k with
 | 0=>none
 | k+1=>(fP x0 fun x0=>fI x1 fun x1=>fI x2 fun x2=>fL σ fun σ=>(Ek k x0 σ).bind fun r1=>(BF .i64 r1.1).bind fun n2=>(bif n2 == (0:Int) then some (true,r1.2) else some (decide (x1<(0:Int)),r1.2)).bind fun r3=>(bif r3.1 then some (true,r3.2) else some (decide (x1≥(8:Int)),r3.2)).bind fun r4=>(bif r4.1 then some (true,r4.2) else some (decide (x2<(0:Int)),r4.2)).bind fun r5=>(bif r5.1 then some (true,r5.2) else (KR k  r5.2).bind fun r6=>(Hm r6.1).bind fun l7=>some (decide (x2≥((l7.2.1:Nat):Int)),r6.2)).bind fun r8=>bif r8.1 then (fI (1:Int) fun y9=>some (.tuple #[.pointer none,.int .i64 y9],r8.2)) else (CC r8.2 (.cells [.pointer x0,.int .i64 x1,.int .i64 x2,.int .i64 (0:Int),.int .i64 (0:Int),.int .i64 (0:Int),.int .i64 (0:Int)] 122 true) fun h10 s11=>fI (0:Int) fun y12=>some (.tuple #[.pointer (some ⟨h10,0,none⟩),.int .i64 y12],s11)))
theorem dU (k:Nat) (x0:Option Addr) (x1:Int) (x2:Int) (σ:Aa):GO k x0 x1 x2 σ=Rm k x0 x1 x2 σ:=by
 cases k with
 | zero=>simp only[GO,Ab]; rfl
 | succ k=>rw[U0,Ux,Rm]; simp only[CY,QQ,AZ,AO,Bc,Ba,Bb,Be,Bd,AW,Bf,Ap,Az,Bg,Ah,Ar,Aq,Ak]
noncomputable def Ot (k:Nat) (x0:Option Addr) (x1:Int) (σ:Aa):Option (Value × Aa):=match k with
 | 0=>none
 | k+1=>(fP x0 fun x0=>fI x1 fun x1=>fL σ fun σ=>(J2 k x0 x1 σ).bind fun r1=>(DY r1.1).bind fun b2=>bif !b2 then (fI (-1:Int) fun y3=>some (.int .i64 y3,r1.2)) else ((IV k x0 x1 r1.2).bind fun r4=>(BF .i64 r4.1).bind fun n5=>fI n5 fun y6=>some (.int .i64 y6,r4.2)))
theorem X0 (k:Nat) (x0:Option Addr) (x1:Int) (σ:Aa):FV k x0 x1 σ=Ot k x0 x1 σ:=by
 cases k with
 | zero=>simp only[FV,Ab]; rfl
 | succ k=>rw[Py,NY,Ot]; simp only[P5,HW,AZ,AO,Bc,Ba,Bb,Be,Bd,AW,Bf,Ap,Az,Bg,Ah,Ar,Aq,Ak]
noncomputable def Pk (k:Nat) (x0:Option Addr) (x1:Int) (σ:Aa):Option (Value × Aa):=match k with
 | 0=>none
 | k+1=>(fP x0 fun x0=>fI x1 fun x1=>fL σ fun σ=>(DH k x0 σ).bind fun r1=>(DY r1.1).bind fun b2=>(bif b2 then some (decide (x1≥(0:Int)),r1.2) else some (false,r1.2)).bind fun r3=>(bif r3.1 then if (2:Int)=0 then none else some ((x1.tmod (2:Int)) == (0:Int),r3.2) else some (false,r3.2)).bind fun r4=>(bif r4.1 then x0.bind fun a5=>(Jb r4.2 a5.block (a5.off+2)).bind fun p6=>if (2:Int)=0 then none else (Ot k p6 (Ac (x1.tdiv (2:Int))) r4.2).bind fun r7=>(BF .i64 r7.1).bind fun n8=>some (n8 == (1:Int),r7.2) else some (false,r4.2)).bind fun r9=>fB r9.1 fun y10=>some (.bool y10,r9.2))
theorem Yi (k:Nat) (x0:Option Addr) (x1:Int) (σ:Aa):G6 k x0 x1 σ=Pk k x0 x1 σ:=by
 cases k with
 | zero=>simp only[G6,Ab]; rfl
 | succ k=>rw[Qh,Pc,Pk]; simp only[DU,X0,AZ,AO,Bc,Ba,Bb,Be,Bd,AW,Bf,Ap,Az,Bg,Ah,Ar,Aq,Ak]
noncomputable def Mq (k:Nat) (x0:Option Addr) (x1:Int) (σ:Aa):Option (Value × Aa):=match k with
 | 0=>none
 | k+1=>(fP x0 fun x0=>fI x1 fun x1=>fL σ fun σ=>(DH k x0 σ).bind fun r1=>(DY r1.1).bind fun b2=>bif !b2 then (fI (5:Int) fun y3=>some (.int .i64 y3,r1.2)) else ((Pk k x0 x1 r1.2).bind fun r4=>(DY r4.1).bind fun b5=>bif !b5 then (fI (4:Int) fun y6=>some (.int .i64 y6,r4.2)) else (fI (0:Int) fun y7=>some (.int .i64 y7,r4.2))))
theorem V7 (k:Nat) (x0:Option Addr) (x1:Int) (σ:Aa):EM k x0 x1 σ=Mq k x0 x1 σ:=by
 cases k with
 | zero=>simp only[EM,Ab]; rfl
 | succ k=>rw[NC,LZ,Mq]; simp only[DU,Yi,AZ,AO,Bc,Ba,Bb,Be,Bd,AW,Bf,Ap,Az,Bg,Ah,Ar,Aq,Ak]
noncomputable def Oq (k:Nat) (x0:Option Addr) (x1:Int) (x2:Int) (σ:Aa):Option (Value × Aa):=match k with
 | 0=>none
 | k+1=>(fP x0 fun x0=>fI x1 fun x1=>fI x2 fun x2=>fL σ fun σ=>x0.bind fun a1=>(Ee σ a1.block (a1.off+1)).bind fun l2=>(KK 3 1 (l2.1,l2.2.1,l2.2.2) (some (.int .i64 x1)) (some (.int .i64 (Ac (x1+x2)))) none σ).bind fun l3=>(if l3.2.1=0 then some σ else l3.1.bind fun a5=>Kj σ a5.block a5.off (rep l3.2.1 [.int .i64 (0:Int)])).bind fun s4=>rq s4 fun s4=>some (.tuple #[],s4))
theorem Xf (k:Nat) (x0:Option Addr) (x1:Int) (x2:Int) (σ:Aa):FT k x0 x1 x2 σ=Oq k x0 x1 x2 σ:=by
 cases k with
 | zero=>simp only[FT,Ab]; rfl
 | succ k=>rw[Pw,NW,Oq]; simp only[AZ,AO,Bc,Ba,Bb,Be,Bd,AW,Bf,Ap,Az,Bg,Ah,Ar,Aq,Ak]
noncomputable def Om (k:Nat) (x0:Option Addr) (x1:Int) (σ:Aa):Option (Value × Aa):=match k with
 | 0=>none
 | k+1=>(fP x0 fun x0=>fI x1 fun x1=>fL σ fun σ=>(Mq k x0 x1 σ).bind fun r1=>(BF .i64 r1.1).bind fun n2=>bif n2 != (0:Int) then (fI n2 fun y3=>some (.int .i64 y3,r1.2)) else (x0.bind fun a4=>(lH r1.2 a4.block (a4.off+4)).bind fun m5=>x0.bind fun a6=>(Ee r1.2 a6.block (a6.off+1)).bind fun l7=>if 0≤x1∧x1<(l7.2.1:Nat) then l7.1.bind fun a8=>(Ai .i64 r1.2 a8.block (a8.off+x1.toNat*1)).bind fun n9=>(eu r1.2 m5).bind fun es10=>rq (ij r1.2 m5 (Ml n9 es10)) fun s11=>x0.bind fun a12=>(Jb s11 a12.block (a12.off+2)).bind fun p13=>if (2:Int)=0 then none else (IU k p13 (Ac (x1.tdiv (2:Int))) (0:Int) s11).bind fun r14=>(BF .i64 r14.1).bind fun n15=>x0.bind fun a16=>(Jb r14.2 a16.block (a16.off+3)).bind fun p17=>if (2:Int)=0 then none else (IU k p17 (Ac (x1.tdiv (2:Int))) (0:Int) r14.2).bind fun r18=>(BF .i64 r18.1).bind fun n19=>(GU k x0 x1 r18.2).bind fun r20=>(BF .i64 r20.1).bind fun n21=>(Oq k x0 x1 n21 r20.2).bind fun r22=>Uj r22.1 (fI (0:Int) fun y23=>some (.int .i64 y23,r22.2)) else none))
theorem Xd (k:Nat) (x0:Option Addr) (x1:Int) (σ:Aa):DF k x0 x1 σ=Om k x0 x1 σ:=by
 cases k with
 | zero=>simp only[DF,Ab]; rfl
 | succ k=>rw[Pr,NR,Om]; simp only[V7,Fu,Rp,Xf,AZ,AO,Bc,Ba,Bb,Be,Bd,AW,Bf,Ap,Az,Bg,Ah,Ar,Aq,Ak]
noncomputable def RD (k:Nat)  (σ:Aa):Option (Value × Aa):=match k with
 | 0=>none
 | k+1=>(fL σ fun σ=>(Tp k (4:Int) σ).bind fun r1=>Uf r1.1 fun p2 n3=>(Rm k p2 (0:Int) (0:Int) r1.2).bind fun r4=>Uf r4.1 fun p5 n6=>(SE P 42 (.pointer p5) (.pointer none)).bind fun e7=>(bif e7 then some (true,r4.2) else some (n6 != (0:Int),r4.2)).bind fun r8=>bif r8.1 then (fB false fun y9=>some (.bool y9,r8.2)) else ((Bt k p5 (0:Int) (4:Int) (0:Int) r8.2).bind fun r10=>Gt r10.1 fun n11 n12=>(Bt k p5 (0:Int) (0:Int) (0:Int) r10.2).bind fun r13=>Gt r13.1 fun n14 n15=>(Bt k p5 (0:Int) (4:Int) (0:Int) r13.2).bind fun r16=>Gt r16.1 fun n17 n18=>(Om k p2 (64:Int) r16.2).bind fun r19=>(BF .i64 r19.1).bind fun n20=>(Bt k p5 (0:Int) (2:Int) (0:Int) r19.2).bind fun r21=>Gt r21.1 fun n22 n23=>(Bt k p5 (0:Int) (2:Int) (0:Int) r21.2).bind fun r24=>Gt r24.1 fun n25 n26=>(bif n11 != (64:Int) then some (true,r24.2) else some (n12 != (0:Int),r24.2)).bind fun r27=>(bif r27.1 then some (true,r27.2) else some (n14 != (70:Int),r27.2)).bind fun r28=>(bif r28.1 then some (true,r28.2) else some (n17 != (72:Int),r28.2)).bind fun r29=>(bif r29.1 then some (true,r29.2) else some (n22 != (64:Int),r29.2)).bind fun r30=>(bif r30.1 then some (true,r30.2) else some (n25 != (78:Int),r30.2)).bind fun r31=>bif r31.1 then (fB false fun y32=>some (.bool y32,r31.2)) else ((Tp k (4:Int) r31.2).bind fun r33=>Uf r33.1 fun p34 n35=>(Kc k p34 (1:Int) (0:Int) r33.2).bind fun r36=>(BF .i64 r36.1).bind fun n37=>(Ke k p34 (72:Int) (0:Int) (6:Int) (0:Int) r36.2).bind fun r38=>Gt r38.1 fun n39 n40=>(Rm k p34 (0:Int) (4:Int) r38.2).bind fun r41=>Uf r41.1 fun p42 n43=>(Bt k p42 (0:Int) (6:Int) (0:Int) r41.2).bind fun r44=>Gt r44.1 fun n45 n46=>(Bt k p42 (0:Int) (6:Int) (0:Int) r44.2).bind fun r47=>Gt r47.1 fun n48 n49=>(Bt k p42 (0:Int) (30:Int) (0:Int) r47.2).bind fun r50=>Gt r50.1 fun n51 n52=>(Bt k p42 (0:Int) (8:Int) (0:Int) r50.2).bind fun r53=>Gt r53.1 fun n54 n55=>(bif n45 == (64:Int) then some (n48 == (80:Int),r53.2) else some (false,r53.2)).bind fun r56=>(bif r56.1 then some (n54 == (128:Int),r56.2) else some (false,r56.2)).bind fun r57=>(bif r57.1 then some (n55 == (0:Int),r57.2) else some (false,r57.2)).bind fun r58=>fB r58.1 fun y59=>some (.bool y59,r58.2))))
theorem aN (k:Nat)  (σ:Aa):Fj k  σ=RD k  σ:=by
 cases k with
 | zero=>simp only[Fj,Ab]; rfl
 | succ k=>rw[U3,VG,RD]; simp only[gw,Rt,dU,Mf,Qs,Xd,AZ,AO,Bc,Ba,Bb,Be,Bd,AW,Bf,Ap,Az,Bg,Ah,Ar,Aq,Ak]
end Go.Proofs.YtlaplcglpnlieaaGreat
