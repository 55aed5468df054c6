/-
 PRINTED BY A PROGRAM OF THIS SESSION'S OWN (gen2.py): the functions that the examples reach, as definitions.
-/
import Derived.Test.YtlaplcglpnlieaaGreatP6
import Derived.Test.YtlaplcglpnlieaaGreatP10
set_option maxRecDepth 100000
set_option linter.unusedVariables false
set_option linter.unusedSimpArgs false
set_option linter.unusedSectionVars false
namespace Go.Proofs.YtlaplcglpnlieaaGreat
open Go Go.AX
local instance tR:Kn:=⟨false⟩
variable [AF]
noncomputable def Hn (k n:Nat) (p0:Option Addr) (c1:Nat) (c2:Nat) (i3:Int) (i4:Int) (x8:Int) (σ:Aa):Option Ay:=match n with
 | 0=>none
 | n+1=>(fP p0 fun p0=>fN c1 fun c1=>fN c2 fun c2=>fI i3 fun i3=>fI i4 fun i4=>fI x8 fun x8=>fL σ fun σ=>bif decide (x8<i4) then (if 0≤x8∧x8<(c1:Nat) then p0.bind fun a1=>(Ai .i64 σ a1.block (a1.off+x8.toNat*1)).bind fun n2=>bif i3 == n2 then (some (.ret,[.int .i64 x8],σ)) else (Hn k n p0 c1 c2 i3 i4 (Ac (x8+(1:Int))) σ) else none) else (some (.exit 0,[],σ)))
termination_by structural n
theorem T6 (k n:Nat) (p0:Option Addr) (c1:Nat) (c2:Nat) (i3:Int) (i4:Int) (x8:Int) (σ:Aa):DU k n p0 c1 c2 i3 i4 x8 σ=Hn k n p0 c1 c2 i3 i4 x8 σ:=by
 induction n generalizing p0 c1 c2 i3 i4 x8 σ with
 | zero=>simp only[DU,Ab]; rfl
 | succ n ih=>rw[LD,JM,Hn]; simp only[ih,AY,AP,Bb,AZ,Ba,Bd,Bc,AV,Be,Ao,A7,Bf,Ag,Ar,Aq,Ak]
noncomputable def Mv (k:Nat) (x0:Option Addr × Nat × Nat) (x1:Int) (σ:Aa):Option (Value × Aa):=match k with
 | 0=>none
 | k+1=>(fS x0 fun x0=>fI x1 fun x1=>fL σ fun σ=>(Hn k k x0.1 x0.2.1 x0.2.2 x1 ((x0.2.1:Nat):Int) (0:Int) σ).bind fun r3=>if r3.1 = .exit 0 then (fI (-1:Int) fun y4=>some (.int .i64 y4,r3.2.2)) else if r3.1 = .ret then (SH r3.2.1 fun n5=>fI n5 fun y6=>some (.int .i64 y6,r3.2.2)) else none)
theorem VF (k:Nat) (x0:Option Addr × Nat × Nat) (x1:Int) (σ:Aa):Ga k x0 x1 σ=Mv k x0 x1 σ:=by
 cases k with
 | zero=>simp only[Ga,Ab]; rfl
 | succ k=>rw[NM,Md,Mv]; simp only[T6,AY,AP,Bb,AZ,Ba,Bd,Bc,AV,Be,Ao,A7,Bf,Ag,Ar,Aq,Ak]
noncomputable def JS (k:Nat) (x0:Option Addr × Nat × Nat) (x1:Int) (σ:Aa):Option (Value × Aa):=match k with
 | 0=>none
 | k+1=>(fS x0 fun x0=>fI x1 fun x1=>fL σ fun σ=>(Mv k (x0.1,x0.2.1,x0.2.2) x1 σ).bind fun r1=>(BA .i64 r1.1).bind fun n2=>fB (decide (n2≥(0:Int))) fun y3=>some (.bool y3,r1.2))
theorem T5 (k:Nat) (x0:Option Addr × Nat × Nat) (x1:Int) (σ:Aa):EH k x0 x1 σ=JS k x0 x1 σ:=by
 cases k with
 | zero=>simp only[EH,Ab]; rfl
 | succ k=>rw[LC,JL,JS]; simp only[VF,AY,AP,Bb,AZ,Ba,Bd,Bc,AV,Be,Ao,A7,Bf,Ag,Ar,Aq,Ak]
noncomputable def Tz (k:Nat) (x0:Int) (x1:Int) (σ:Aa):Option (Value × Aa):=match k with
 | 0=>none
 | k+1=>(fI x0 fun x0=>fI x1 fun x1=>fL σ fun σ=>(bif decide (x0<(1:Int)) then some (true,σ) else some (decide (x0>(4096:Int)),σ)).bind fun r1=>(bif r1.1 then some (true,r1.2) else CC r1.2 (.cells [.int .i64 (1:Int),.int .i64 (2:Int),.int .i64 (4:Int),.int .i64 (8:Int)] 3 true) fun h2 s3=>(JS k (some ⟨h2,0,none⟩,4,4) x1 s3).bind fun r4=>(DF r4.1).bind fun b5=>some (!b5,r4.2)).bind fun r6=>bif r6.1 then (fI (1:Int) fun y7=>some (.tuple #[.pointer none,.int .i64 y7],r6.2)) else (if (64:Int)=0 then none else if 0≤(Ac ((Ac ((Ac ((Ac (x0*x1))+(64:Int)))-(1:Int))).tdiv (64:Int)))∧(Ac ((Ac ((Ac ((Ac (x0*x1))+(64:Int)))-(1:Int))).tdiv (64:Int)))≤(Ac ((Ac ((Ac ((Ac (x0*x1))+(64:Int)))-(1:Int))).tdiv (64:Int)))∧(Ac ((Ac ((Ac ((Ac (x0*x1))+(64:Int)))-(1:Int))).tdiv (64:Int)))*(8:Nat)≤2 ^ 40∧(Ac ((Ac ((Ac ((Ac (x0*x1))+(64:Int)))-(1:Int))).tdiv (64:Int)))≤2 ^ 40 then CC r6.2 (.cells (rep (Ac ((Ac ((Ac ((Ac (x0*x1))+(64:Int)))-(1:Int))).tdiv (64:Int))).toNat [.int .u64 (0:Int)]) 138 true) fun h8 s9=>CC s9 (.cells [.int .i64 x0,.int .i64 x1,.slice (some ⟨h8,0,none⟩) ((Ac ((Ac ((Ac ((Ac (x0*x1))+(64:Int)))-(1:Int))).tdiv (64:Int))).toNat) ((Ac ((Ac ((Ac ((Ac (x0*x1))+(64:Int)))-(1:Int))).tdiv (64:Int))).toNat)] 136 true) fun h10 s11=>fI (0:Int) fun y12=>some (.tuple #[.pointer (some ⟨h10,0,none⟩),.int .i64 y12],s11) else none))
theorem iQ (k:Nat) (x0:Int) (x1:Int) (σ:Aa):Mf k x0 x1 σ=Tz k x0 x1 σ:=by
 cases k with
 | zero=>simp only[Mf,Ab]; rfl
 | succ k=>rw[VT,Wm,Tz]; simp only[T5,AY,AP,Bb,AZ,Ba,Bd,Bc,AV,Be,Ao,A7,Bf,Ag,Ar,Aq,Ak]
noncomputable def Tw (k:Nat) (x0:Int) (σ:Aa):Option (Value × Aa):=match k with
 | 0=>none
 | k+1=>(fI x0 fun x0=>fL σ fun σ=>(bif decide (x0<(2:Int)) then some (true,σ) else some (decide (x0>(64:Int)),σ)).bind fun r1=>bif r1.1 then (fI (1:Int) fun y2=>some (.tuple #[.pointer none,.int .i64 y2],r1.2)) else (if 0≤x0∧x0≤x0∧x0*(16:Nat)≤2 ^ 40∧x0≤2 ^ 40 then CC r1.2 (.cells (rep x0.toNat [.int .i64 (0:Int),.int .i64 (0:Int)]) 104 true) fun h3 s4=>if 0≤(Ac (x0*(64:Int)))∧(Ac (x0*(64:Int)))≤(Ac (x0*(64:Int)))∧(Ac (x0*(64:Int)))*(8:Nat)≤2 ^ 40∧(Ac (x0*(64:Int)))≤2 ^ 40 then CC s4 (.cells (rep (Ac (x0*(64:Int))).toNat [.int .i64 (0:Int)]) 3 true) fun h5 s6=>CC s6 (.map []) fun h7 s8=>CC s8 (.map []) fun h9 s10=>CC s10 (.cells [.slice (some ⟨h3,0,none⟩) x0.toNat x0.toNat,.slice (some ⟨h5,0,none⟩) ((Ac (x0*(64:Int))).toNat) ((Ac (x0*(64:Int))).toNat),.pointer none,.pointer none,.map (some h7),.map (some h9),.int .i64 (0:Int)] 94 true) fun h11 s12=>(Ew s12 h11 (0+1)).bind fun l13=>if (2:Int)=0 then none else (Tz k (Ac (((l13.2.1:Nat):Int).tdiv (2:Int))) (1:Int) s12).bind fun r14=>Uh r14.1 fun p15 n16=>VG r14.2 h11 (0+2) (.pointer p15) fun s17=>(Ew s17 h11 (0+1)).bind fun l18=>if (2:Int)=0 then none else (Tz k (Ac (((l18.2.1:Nat):Int).tdiv (2:Int))) (1:Int) s17).bind fun r19=>Uh r19.1 fun p20 n21=>VG r19.2 h11 (0+3) (.pointer p20) fun s22=>fI (0:Int) fun y23=>some (.tuple #[.pointer (some ⟨h11,0,none⟩),.int .i64 y23],s22) else none else none))
theorem hO (k:Nat) (x0:Int) (σ:Aa):G8 k x0 σ=Tw k x0 σ:=by
 cases k with
 | zero=>simp only[G8,Ab]; rfl
 | succ k=>rw[R5,SP,Tw]; simp only[iQ,AY,AP,Bb,AZ,Ba,Bd,Bc,AV,Be,Ao,A7,Bf,Ag,Ar,Aq,Ak]
noncomputable def N6 (k:Nat) (x0_0:Int) (x0_1:Int) (x0_2:Int) (σ:Aa):Option (Value × Aa):=match k with
 | 0=>none
 | k+1=>(fI x0_0 fun x0_0=>fI x0_1 fun x0_1=>fI x0_2 fun x0_2=>fL σ fun σ=>CC σ (.cells [.int .i64 x0_0,.int .i64 x0_1,.int .i64 x0_2] 33 true) fun h1 s2=>(Ai .i64 s2 h1 (0+0)).bind fun n3=>(bif decide (n3≥(0:Int)) then (Ai .i64 s2 h1 (0+0)).bind fun n4=>some (decide (n4≤(15:Int)),s2) else some (false,s2)).bind fun r5=>(bif r5.1 then (Ai .i64 r5.2 h1 (0+1)).bind fun n6=>some (decide (n6≥(0:Int)),r5.2) else some (false,r5.2)).bind fun r7=>(bif r7.1 then (Ai .i64 r7.2 h1 (0+1)).bind fun n8=>some (decide (n8≤(200:Int)),r7.2) else some (false,r7.2)).bind fun r9=>(bif r9.1 then (Ai .i64 r9.2 h1 (0+2)).bind fun n10=>some (decide (n10≥(0:Int)),r9.2) else some (false,r9.2)).bind fun r11=>(bif r11.1 then (Ai .i64 r11.2 h1 (0+2)).bind fun n12=>some (decide (n12≤(3:Int)),r11.2) else some (false,r11.2)).bind fun r13=>(bif r13.1 then (Ai .i64 r13.2 h1 (0+2)).bind fun n14=>(bif n14 != (1:Int) then some (true,r13.2) else (Ai .i64 r13.2 h1 (0+0)).bind fun n15=>some (decide (n15≥(1:Int)),r13.2)).bind fun r16=>some (r16.1,r16.2) else some (false,r13.2)).bind fun r17=>(bif r17.1 then (Ai .i64 r17.2 h1 (0+2)).bind fun n18=>(bif n18 != (2:Int) then some (true,r17.2) else (Ai .i64 r17.2 h1 (0+0)).bind fun n19=>some (decide (n19≥(2:Int)),r17.2)).bind fun r20=>some (r20.1,r20.2) else some (false,r17.2)).bind fun r21=>fB r21.1 fun y22=>some (.bool y22,r21.2))
theorem R9 (k:Nat) (x0_0:Int) (x0_1:Int) (x0_2:Int) (σ:Aa):Ea k x0_0 x0_1 x0_2 σ=N6 k x0_0 x0_1 x0_2 σ:=by
 cases k with
 | zero=>simp only[Ea,Ab]; rfl
 | succ k=>rw[TF,SQ,N6]; simp only[AY,AP,Bb,AZ,Ba,Bd,Bc,AV,Be,Ao,A7,Bf,Ag,Ar,Aq,Ak]
noncomputable def N7 (k:Nat) (x0_0:Int) (x0_1:Int) (x0_2:Int) (σ:Aa):Option (Value × Aa):=match k with
 | 0=>none
 | k+1=>(fI x0_0 fun x0_0=>fI x0_1 fun x0_1=>fI x0_2 fun x0_2=>fL σ fun σ=>CC σ (.cells [.int .i64 x0_0,.int .i64 x0_1,.int .i64 x0_2] 33 true) fun h1 s2=>(Ai .i64 s2 h1 0).bind fun n3=>(Ai .i64 s2 h1 (0+1)).bind fun n4=>(Ai .i64 s2 h1 (0+1+1)).bind fun n5=>(N6 k n3 n4 n5 s2).bind fun r6=>(DF r6.1).bind fun b7=>bif !b7 then (fI (0:Int) fun y8=>some (.int .i64 y8,r6.2)) else ((Ai .i64 r6.2 h1 (0+0)).bind fun n9=>(Ai .i64 r6.2 h1 (0+1)).bind fun n10=>if (2:Int)=0 then none else fI (Ac ((Ac ((Ac ((Ac ((Ac ((2:Int)+n9))+n10))+(1:Int))).tdiv (2:Int)))*(2:Int))) fun y11=>some (.int .i64 y11,r6.2)))
theorem RA (k:Nat) (x0_0:Int) (x0_1:Int) (x0_2:Int) (σ:Aa):Ez k x0_0 x0_1 x0_2 σ=N7 k x0_0 x0_1 x0_2 σ:=by
 cases k with
 | zero=>simp only[Ez,Ab]; rfl
 | succ k=>rw[TG,SR,N7]; simp only[R9,AY,AP,Bb,AZ,Ba,Bd,Bc,AV,Be,Ao,A7,Bf,Ag,Ar,Aq,Ak]
noncomputable def DN (k:Nat) (x0:Option Addr) (σ:Aa):Option (Value × Aa):=match k with
 | 0=>none
 | k+1=>(fP x0 fun x0=>fL σ fun σ=>(Vi P 25 (.pointer x0) (.pointer none)).bind fun e1=>(bif !e1 then x0.bind fun a2=>(Ew σ a2.block (a2.off+0)).bind fun l3=>some (decide (((l3.2.1:Nat):Int)>(0:Int)),σ) else some (false,σ)).bind fun r4=>fB r4.1 fun y5=>some (.bool y5,r4.2))
theorem Ec (k:Nat) (x0:Option Addr) (σ:Aa):AJ k x0 σ=DN k x0 σ:=by
 cases k with
 | zero=>simp only[AJ,Ab]; rfl
 | succ k=>rw[Pz,NZ,DN]; simp only[AY,AP,Bb,AZ,Ba,Bd,Bc,AV,Be,Ao,A7,Bf,Ag,Ar,Aq,Ak]
noncomputable def Et (k:Nat) (x0:Option Addr) (σ:Aa):Option (Value × Aa):=match k with
 | 0=>none
 | k+1=>(fP x0 fun x0=>fL σ fun σ=>(DN k x0 σ).bind fun r1=>(DF r1.1).bind fun b2=>bif !b2 then (fI (0:Int) fun y3=>some (.int .i64 y3,r1.2)) else (x0.bind fun a4=>(Ew r1.2 a4.block (a4.off+0)).bind fun l5=>fI ((l5.2.1:Nat):Int) fun y6=>some (.int .i64 y6,r1.2)))
theorem CZ (k:Nat) (x0:Option Addr) (σ:Aa):Az k x0 σ=Et k x0 σ:=by
 cases k with
 | zero=>simp only[Az,Ab]; rfl
 | succ k=>rw[NH,LY,Et]; simp only[Ec,AY,AP,Bb,AZ,Ba,Bd,Bc,AV,Be,Ao,A7,Bf,Ag,Ar,Aq,Ak]
noncomputable def Ke (k:Nat) (x0:Option Addr) (x1:Int) (σ:Aa):Option (Value × Aa):=match k with
 | 0=>none
 | k+1=>(fP x0 fun x0=>fI x1 fun x1=>fL σ fun σ=>(bif decide (x1<(0:Int)) then some (true,σ) else (Et k x0 σ).bind fun r1=>(BA .i64 r1.1).bind fun n2=>some (decide (x1≥n2),r1.2)).bind fun r3=>bif r3.1 then (fI (-1:Int) fun y4=>some (.int .i64 y4,r3.2)) else (x0.bind fun a5=>(Ew r3.2 a5.block (a5.off+0)).bind fun l6=>if 0≤x1∧x1<(l6.2.1:Nat) then l6.1.bind fun a7=>(Ai .i64 r3.2 a7.block (a7.off+x1.toNat*2+1)).bind fun n8=>fI n8 fun y9=>some (.int .i64 y9,r3.2) else none))
theorem Mi (k:Nat) (x0:Option Addr) (x1:Int) (σ:Aa):B7 k x0 x1 σ=Ke k x0 x1 σ:=by
 cases k with
 | zero=>simp only[B7,Ab]; rfl
 | succ k=>rw[K7,JV,Ke]; simp only[CZ,AY,AP,Bb,AZ,Ba,Bd,Bc,AV,Be,Ao,A7,Bf,Ag,Ar,Aq,Ak]
noncomputable def I3 (k n:Nat) (p0:Option Addr) (i1:Int) (x5:Int) (σ:Aa):Option Ay:=match n with
 | 0=>none
 | n+1=>(fP p0 fun p0=>fI i1 fun i1=>fI x5 fun x5=>fL σ fun σ=>p0.bind fun a1=>(Ew σ a1.block (a1.off+0)).bind fun l2=>if 0≤i1∧i1<(l2.2.1:Nat) then l2.1.bind fun a3=>(Ai .i64 σ a3.block (a3.off+i1.toNat*2+0)).bind fun n4=>(bif n4 == (2:Int) then p0.bind fun a5=>(Ew σ a5.block (a5.off+0)).bind fun l6=>some (decide ((Ac (i1+x5))<((l6.2.1:Nat):Int)),σ) else some (false,σ)).bind fun r7=>(bif r7.1 then p0.bind fun a8=>(Ew r7.2 a8.block (a8.off+0)).bind fun l9=>if 0≤(Ac (i1+x5))∧(Ac (i1+x5))<(l9.2.1:Nat) then l9.1.bind fun a10=>(Ai .i64 r7.2 a10.block (a10.off+(Ac (i1+x5)).toNat*2+0)).bind fun n11=>some (n11 == (3:Int),r7.2) else none else some (false,r7.2)).bind fun r12=>bif r12.1 then (I3 k n p0 i1 (Ac (x5+(1:Int))) r12.2) else (some (.exit 0,[.int .i64 x5],r12.2)) else none)
termination_by structural n
theorem UI (k n:Nat) (p0:Option Addr) (i1:Int) (x5:Int) (σ:Aa):DO k n p0 i1 x5 σ=I3 k n p0 i1 x5 σ:=by
 induction n generalizing p0 i1 x5 σ with
 | zero=>simp only[DO,Ab]; rfl
 | succ n ih=>rw[Jn,It,I3]; simp only[ih,AY,AP,Bb,AZ,Ba,Bd,Bc,AV,Be,Ao,A7,Bf,Ag,Ar,Aq,Ak]
noncomputable def Ou (k:Nat) (x0:Option Addr) (x1:Int) (σ:Aa):Option (Value × Aa):=match k with
 | 0=>none
 | k+1=>(fP x0 fun x0=>fI x1 fun x1=>fL σ fun σ=>(I3 k k x0 x1 (1:Int) σ).bind fun r13=>if r13.1 = .exit 0 then (SH r13.2.1 fun n14=>fI n14 fun y15=>some (.int .i64 y15,r13.2.2)) else none)
theorem Ri (k:Nat) (x0:Option Addr) (x1:Int) (σ:Aa):Db k x0 x1 σ=Ou k x0 x1 σ:=by
 cases k with
 | zero=>simp only[Db,Ab]; rfl
 | succ k=>rw[P1,Ob,Ou]; simp only[UI,AY,AP,Bb,AZ,Ba,Bd,Bc,AV,Be,Ao,A7,Bf,Ag,Ar,Aq,Ak]
noncomputable def Tx (k:Nat) (x0:Int) (σ:Aa):Option (Value × Aa):=match k with
 | 0=>none
 | k+1=>(fI x0 fun x0=>fL σ fun σ=>CC σ (.cells [.int .i64 (0:Int),.int .i64 (0:Int),.int .i64 (0:Int)] 33 true) fun h1 s2=>if (16:Int)=0 then none else if (4096:Int)=0 then none else if (16:Int)=0 then none else if (4096:Int)=0 then none else T8 s2 h1 0 [.int .i64 (x0.tmod (16:Int)),.int .i64 (Ac ((x0.tmod (4096:Int)).tdiv (16:Int))),.int .i64 (Ac (x0.tdiv (4096:Int)))] fun s3=>(((VV s3 h1 0 3).bind fun v4=>some (.agg v4.toArray)).bind fun v5=>some [v5]).bind fun vs6=>some (Q9 vs6,s3))
theorem cO (k:Nat) (x0:Int) (σ:Aa):Jo k x0 σ=Tx k x0 σ:=by
 cases k with
 | zero=>simp only[Jo,Ab]; rfl
 | succ k=>rw[TH,SS,Tx]; simp only[AY,AP,Bb,AZ,Ba,Bd,Bc,AV,Be,Ao,A7,Bf,Ag,Ar,Aq,Ak]
noncomputable def GV (k:Nat) (x0:Option Addr) (x1:Int) (σ:Aa):Option (Value × Aa):=match k with
 | 0=>none
 | k+1=>(fP x0 fun x0=>fI x1 fun x1=>fL σ fun σ=>x0.bind fun a1=>(Ew σ a1.block (a1.off+1)).bind fun l2=>if 0≤(Ac (x1+(1:Int)))∧(Ac (x1+(1:Int)))<(l2.2.1:Nat) then l2.1.bind fun a3=>(Ai .i64 σ a3.block (a3.off+(Ac (x1+(1:Int))).toNat*1)).bind fun n4=>(Tx k n4 σ).bind fun r5=>kO r5.1 fun n6 n7 n8=>(N7 k n6 n7 n8 r5.2).bind fun r9=>(BA .i64 r9.1).bind fun n10=>fI n10 fun y11=>some (.int .i64 y11,r9.2) else none)
theorem Fy (k:Nat) (x0:Option Addr) (x1:Int) (σ:Aa):BZ k x0 x1 σ=GV k x0 x1 σ:=by
 cases k with
 | zero=>simp only[BZ,Ab]; rfl
 | succ k=>rw[P0,Oa,GV]; simp only[RA,cO,AY,AP,Bb,AZ,Ba,Bd,Bc,AV,Be,Ao,A7,Bf,Ag,Ar,Aq,Ak]
noncomputable def Gz (k:Nat) (x0:Option Addr) (σ:Aa):Option (Value × Aa):=match k with
 | 0=>none
 | k+1=>(fP x0 fun x0=>fL σ fun σ=>(Vi P 92 (.pointer x0) (.pointer none)).bind fun e1=>(bif !e1 then x0.bind fun a2=>(Ai .i64 σ a2.block (a2.off+0)).bind fun n3=>some (decide (n3>(0:Int)),σ) else some (false,σ)).bind fun r4=>fB r4.1 fun y5=>some (.bool y5,r4.2))
theorem Gd (k:Nat) (x0:Option Addr) (σ:Aa):Cb k x0 σ=Gz k x0 σ:=by
 cases k with
 | zero=>simp only[Cb,Ab]; rfl
 | succ k=>rw[OR,Ni,Gz]; simp only[AY,AP,Bb,AZ,Ba,Bd,Bc,AV,Be,Ao,A7,Bf,Ag,Ar,Aq,Ak]
noncomputable def HW (k:Nat) (x0:Option Addr) (σ:Aa):Option (Value × Aa):=match k with
 | 0=>none
 | k+1=>(fP x0 fun x0=>fL σ fun σ=>x0.bind fun a1=>(Ai .i64 σ a1.block (a1.off+1)).bind fun n2=>if n2<0 then none else fI (Ac ((Ac ((1:Int)*2 ^ (min n2.toNat 64)))-(1:Int))) fun y3=>some (.int .i64 y3,σ))
theorem Mw (k:Nat) (x0:Option Addr) (σ:Aa):CK k x0 σ=HW k x0 σ:=by
 cases k with
 | zero=>simp only[CK,Ab]; rfl
 | succ k=>rw[OS,Nj,HW]; simp only[AY,AP,Bb,AZ,Ba,Bd,Bc,AV,Be,Ao,A7,Bf,Ag,Ar,Aq,Ak]
noncomputable def IU (k:Nat) (x0:Option Addr) (x1:Int) (σ:Aa):Option (Value × Aa):=match k with
 | 0=>none
 | k+1=>(fP x0 fun x0=>fI x1 fun x1=>fL σ fun σ=>x0.bind fun a1=>(Ai .i64 σ a1.block (a1.off+1)).bind fun n2=>x0.bind fun a3=>(Ew σ a3.block (a3.off+2)).bind fun l4=>if (64:Int)=0 then none else if 0≤(Ac ((Ac (x1*n2)).tdiv (64:Int)))∧(Ac ((Ac (x1*n2)).tdiv (64:Int)))<(l4.2.1:Nat) then l4.1.bind fun a5=>(Ai .u64 σ a5.block (a5.off+(Ac ((Ac (x1*n2)).tdiv (64:Int))).toNat*1)).bind fun n6=>if (64:Int)=0 then none else if ((Ac (x1*n2)).tmod (64:Int))<0 then none else (HW k x0 σ).bind fun r7=>(BA .i64 r7.1).bind fun n8=>fI (Ac ((BitVec.ofInt 64 (Ac (n6.fdiv (2 ^ (min ((Ac (x1*n2)).tmod (64:Int)).toNat 64)))) &&& BitVec.ofInt 64 n8).toNat)) fun y9=>some (.int .i64 y9,r7.2) else none)
theorem HX (k:Nat) (x0:Option Addr) (x1:Int) (σ:Aa):Dd k x0 x1 σ=IU k x0 x1 σ:=by
 cases k with
 | zero=>simp only[Dd,Ab]; rfl
 | succ k=>rw[P6,Og,IU]; simp only[Mw,AY,AP,Bb,AZ,Ba,Bd,Bc,AV,Be,Ao,A7,Bf,Ag,Ar,Aq,Ak]
noncomputable def HU (k n:Nat) (p0:Option Addr) (i1:Int) (x8:Int) (σ:Aa):Option Ay:=match n with
 | 0=>none
 | n+1=>(fP p0 fun p0=>fI i1 fun i1=>fI x8 fun x8=>fL σ fun σ=>bif decide (x8≥(0:Int)) then ((IU k p0 x8 σ).bind fun r7=>(BA .i64 r7.1).bind fun n8=>bif n8 == i1 then (some (.ret,[.int .i64 x8,.int .i64 (0:Int)],r7.2)) else (HU k n p0 i1 (Ac (x8-(1:Int))) r7.2)) else (some (.exit 0,[],σ)))
termination_by structural n
theorem Ui (k n:Nat) (p0:Option Addr) (i1:Int) (x8:Int) (σ:Aa):Dq k n p0 i1 x8 σ=HU k n p0 i1 x8 σ:=by
 induction n generalizing p0 i1 x8 σ with
 | zero=>simp only[Dq,Ab]; rfl
 | succ n ih=>rw[IL,HD,HU]; simp only[Gd,HX,ih,AY,AP,Bb,AZ,Ba,Bd,Bc,AV,Be,Ao,A7,Bf,Ag,Ar,Aq,Ak]
noncomputable def N8 (k:Nat) (x0:Option Addr) (x1:Int) (x2:Int) (σ:Aa):Option (Value × Aa):=match k with
 | 0=>none
 | k+1=>(fP x0 fun x0=>fI x1 fun x1=>fI x2 fun x2=>fL σ fun σ=>(Gz k x0 σ).bind fun r1=>(DF r1.1).bind fun b2=>bif !b2 then (fI (0:Int) fun y3=>fI (5:Int) fun y4=>some (.tuple #[.int .i64 y3,.int .i64 y4],r1.2)) else (x0.bind fun a5=>(Ai .i64 r1.2 a5.block (a5.off+0)).bind fun n6=>(HU k k x0 x2 (Ac ((if n6<(if (0:Int)>x1 then (0:Int) else x1) then n6 else (if (0:Int)>x1 then (0:Int) else x1))-(1:Int))) r1.2).bind fun r9=>if r9.1 = .exit 0 then (fI (0:Int) fun y10=>fI (4:Int) fun y11=>some (.tuple #[.int .i64 y10,.int .i64 y11],r9.2.2)) else if r9.1 = .ret then (SI r9.2.1 fun n12 n13=>fI n12 fun y14=>fI n13 fun y15=>some (.tuple #[.int .i64 y14,.int .i64 y15],r9.2.2)) else none))
theorem WL (k:Nat) (x0:Option Addr) (x1:Int) (x2:Int) (σ:Aa):Fx k x0 x1 x2 σ=N8 k x0 x1 x2 σ:=by
 cases k with
 | zero=>simp only[Fx,Ab]; rfl
 | succ k=>rw[OP,Ng,N8]; simp only[Gd,HX,Ui,AY,AP,Bb,AZ,Ba,Bd,Bc,AV,Be,Ao,A7,Bf,Ag,Ar,Aq,Ak]
noncomputable def On (k:Nat) (x0:Option Addr) (x1:Int) (σ:Aa):Option (Value × Aa):=match k with
 | 0=>none
 | k+1=>(fP x0 fun x0=>fI x1 fun x1=>fL σ fun σ=>(DN k x0 σ).bind fun r1=>(DF r1.1).bind fun b2=>bif !b2 then (fI (0:Int) fun y3=>fI (5:Int) fun y4=>some (.tuple #[.int .i64 y3,.int .i64 y4],r1.2)) else ((bif decide (x1<(0:Int)) then some (true,r1.2) else x0.bind fun a5=>(Ew r1.2 a5.block (a5.off+1)).bind fun l6=>some (decide (x1≥((l6.2.1:Nat):Int)),r1.2)).bind fun r7=>bif r7.1 then (fI (0:Int) fun y8=>fI (4:Int) fun y9=>some (.tuple #[.int .i64 y8,.int .i64 y9],r7.2)) else (x0.bind fun a10=>(Js r7.2 a10.block (a10.off+2)).bind fun p11=>if (2:Int)=0 then none else (N8 k p11 (Ac ((Ac (x1.tdiv (2:Int)))+(1:Int))) (1:Int) r7.2).bind fun r12=>Gu r12.1 fun n13 n14=>(bif n14 != (0:Int) then some (true,r12.2) else (GV k x0 (Ac ((2:Int)*n13)) r12.2).bind fun r15=>(BA .i64 r15.1).bind fun n16=>some (decide (x1≥(Ac ((Ac ((2:Int)*n13))+n16))),r15.2)).bind fun r17=>bif r17.1 then (fI (0:Int) fun y18=>fI (4:Int) fun y19=>some (.tuple #[.int .i64 y18,.int .i64 y19],r17.2)) else (fI (Ac ((2:Int)*n13)) fun y20=>fI (0:Int) fun y21=>some (.tuple #[.int .i64 y20,.int .i64 y21],r17.2)))))
theorem Rh (k:Nat) (x0:Option Addr) (x1:Int) (σ:Aa):FR k x0 x1 σ=On k x0 x1 σ:=by
 cases k with
 | zero=>simp only[FR,Ab]; rfl
 | succ k=>rw[Pw,NW,On]; simp only[Ec,Fy,WL,AY,AP,Bb,AZ,Ba,Bd,Bc,AV,Be,Ao,A7,Bf,Ag,Ar,Aq,Ak]
noncomputable def I0 (k n:Nat) (p0:Option Addr) (i1:Int) (i2:Int) (i3:Int) (x10:Int) (σ:Aa):Option Ay:=match n with
 | 0=>none
 | n+1=>(fP p0 fun p0=>fI i1 fun i1=>fI i2 fun i2=>fI i3 fun i3=>fI x10 fun x10=>fL σ fun σ=>bif decide (x10<(Ac (i1+i2))) then ((On k p0 x10 σ).bind fun r20=>Gu r20.1 fun n21 n22=>(bif n22 == (0:Int) then some (n21 != i3,r20.2) else some (false,r20.2)).bind fun r23=>bif r23.1 then (some (.ret,[.int .i64 (8:Int)],r23.2)) else (I0 k n p0 i1 i2 i3 (Ac (x10+(2:Int))) r23.2)) else (some (.exit 0,[],σ)))
termination_by structural n
theorem UH (k n:Nat) (p0:Option Addr) (i1:Int) (i2:Int) (i3:Int) (x10:Int) (σ:Aa):CY k n p0 i1 i2 i3 x10 σ=I0 k n p0 i1 i2 i3 x10 σ:=by
 induction n generalizing p0 i1 i2 i3 x10 σ with
 | zero=>simp only[CY,Ab]; rfl
 | succ n ih=>rw[Jm,Is,I0]; simp only[Ri,Rh,ih,AY,AP,Bb,AZ,Ba,Bd,Bc,AV,Be,Ao,A7,Bf,Ag,Ar,Aq,Ak]
noncomputable def Ot (k:Nat) (x0:Option Addr) (x1:Int) (x2:Int) (x3:Int) (σ:Aa):Option (Value × Aa):=match k with
 | 0=>none
 | k+1=>(fP x0 fun x0=>fI x1 fun x1=>fI x2 fun x2=>fI x3 fun x3=>fL σ fun σ=>(bif decide (x1<(0:Int)) then some (true,σ) else x0.bind fun a1=>(Ew σ a1.block (a1.off+1)).bind fun l2=>some (decide (x1≥((l2.2.1:Nat):Int)),σ)).bind fun r3=>(bif r3.1 then some (true,r3.2) else if (2:Int)=0 then none else some ((x1.tmod (2:Int)) != (0:Int),r3.2)).bind fun r4=>bif r4.1 then (fI (1:Int) fun y5=>some (.int .i64 y5,r4.2)) else (if (64:Int)=0 then none else (bif decide (x2≤(32:Int)) then (x0.bind fun a6=>(Ew r4.2 a6.block (a6.off+0)).bind fun l7=>if 0≤(Ac (x1.tdiv (64:Int)))∧(Ac (x1.tdiv (64:Int)))<(l7.2.1:Nat) then l7.1.bind fun a8=>(Ai .i64 r4.2 a8.block (a8.off+(Ac (x1.tdiv (64:Int))).toNat*2+0)).bind fun n9=>(bif n9 != (1:Int) then some (true,r4.2) else if (64:Int)=0 then none else some ((Ac ((Ac ((Ac (x1+x2))-(1:Int))).tdiv (64:Int))) != (Ac (x1.tdiv (64:Int))),r4.2)).bind fun r10=>bif r10.1 then (some (.ret,[.int .i64 (5:Int)],r10.2)) else (some (.normal,[],r10.2)) else none) else (x0.bind fun a11=>(Ew r4.2 a11.block (a11.off+0)).bind fun l12=>if 0≤(Ac (x1.tdiv (64:Int)))∧(Ac (x1.tdiv (64:Int)))<(l12.2.1:Nat) then l12.1.bind fun a13=>(Ai .i64 r4.2 a13.block (a13.off+(Ac (x1.tdiv (64:Int))).toNat*2+0)).bind fun n14=>(bif n14 != (2:Int) then some (true,r4.2) else if (64:Int)=0 then none else some ((x1.tmod (64:Int)) != (0:Int),r4.2)).bind fun r15=>(bif r15.1 then some (true,r15.2) else (Ou k x0 (Ac (x1.tdiv (64:Int))) r15.2).bind fun r16=>(BA .i64 r16.1).bind fun n17=>if (64:Int)=0 then none else some (n17 != (Ac ((Ac ((Ac (x2+(64:Int)))-(1:Int))).tdiv (64:Int))),r16.2)).bind fun r18=>bif r18.1 then (some (.ret,[.int .i64 (5:Int)],r18.2)) else (some (.normal,[],r18.2)) else none):Option Ay).bind fun r19=>if r19.1 = .normal then ((I0 k k x0 x1 x2 x3 x1 r19.2.2).bind fun r24=>if r24.1 = .exit 0 then (fI (0:Int) fun y25=>some (.int .i64 y25,r24.2.2)) else if r24.1 = .ret then (SH r24.2.1 fun n26=>fI n26 fun y27=>some (.int .i64 y27,r24.2.2)) else none) else if r19.1 = .ret then (SH r19.2.1 fun n28=>fI n28 fun y29=>some (.int .i64 y29,r19.2.2)) else none))
theorem Xr (k:Nat) (x0:Option Addr) (x1:Int) (x2:Int) (x3:Int) (σ:Aa):FT k x0 x1 x2 x3 σ=Ot k x0 x1 x2 x3 σ:=by
 cases k with
 | zero=>simp only[FT,Ab]; rfl
 | succ k=>rw[Py,NY,Ot]; simp only[Ri,Rh,UH,AY,AP,Bb,AZ,Ba,Bd,Bc,AV,Be,Ao,A7,Bf,Ag,Ar,Aq,Ak]
noncomputable def RE (k:Nat) (x0_0:Int) (x0_1:Int) (x0_2:Int) (σ:Aa):Option (Value × Aa):=match k with
 | 0=>none
 | k+1=>(fI x0_0 fun x0_0=>fI x0_1 fun x0_1=>fI x0_2 fun x0_2=>fL σ fun σ=>CC σ (.cells [.int .i64 x0_0,.int .i64 x0_1,.int .i64 x0_2] 33 true) fun h1 s2=>(Ai .i64 s2 h1 (0+0)).bind fun n3=>(Ai .i64 s2 h1 (0+1)).bind fun n4=>(Ai .i64 s2 h1 (0+2)).bind fun n5=>fI (Ac ((Ac (n3+(Ac ((16:Int)*n4))))+(Ac ((4096:Int)*n5)))) fun y6=>some (.int .i64 y6,s2))
theorem aY (k:Nat) (x0_0:Int) (x0_1:Int) (x0_2:Int) (σ:Aa):Ic k x0_0 x0_1 x0_2 σ=RE k x0_0 x0_1 x0_2 σ:=by
 cases k with
 | zero=>simp only[Ic,Ab]; rfl
 | succ k=>rw[Sk,Rz,RE]; simp only[AY,AP,Bb,AZ,Ba,Bd,Bc,AV,Be,Ao,A7,Bf,Ag,Ar,Aq,Ak]
noncomputable def Jz (k:Nat) (x0:Option Addr) (x1:Int) (σ:Aa):Option (Value × Aa):=match k with
 | 0=>none
 | k+1=>(fP x0 fun x0=>fI x1 fun x1=>fL σ fun σ=>(Gz k x0 σ).bind fun r1=>(DF r1.1).bind fun b2=>(bif b2 then some (decide (x1≥(0:Int)),r1.2) else some (false,r1.2)).bind fun r3=>(bif r3.1 then x0.bind fun a4=>(Ai .i64 r3.2 a4.block (a4.off+0)).bind fun n5=>some (decide (x1<n5),r3.2) else some (false,r3.2)).bind fun r6=>fB r6.1 fun y7=>some (.bool y7,r6.2))
theorem PA (k:Nat) (x0:Option Addr) (x1:Int) (σ:Aa):D1 k x0 x1 σ=Jz k x0 x1 σ:=by
 cases k with
 | zero=>simp only[D1,Ab]; rfl
 | succ k=>rw[NK,Mb,Jz]; simp only[Gd,AY,AP,Bb,AZ,Ba,Bd,Bc,AV,Be,Ao,A7,Bf,Ag,Ar,Aq,Ak]
noncomputable def Mt (k:Nat) (x0:Option Addr) (x1:Int) (σ:Aa):Option (Value × Aa):=match k with
 | 0=>none
 | k+1=>(fP x0 fun x0=>fI x1 fun x1=>fL σ fun σ=>(bif decide (x1≥(0:Int)) then (HW k x0 σ).bind fun r1=>(BA .i64 r1.1).bind fun n2=>some (decide (x1≤n2),r1.2) else some (false,σ)).bind fun r3=>fB r3.1 fun y4=>some (.bool y4,r3.2))
theorem VE (k:Nat) (x0:Option Addr) (x1:Int) (σ:Aa):ET k x0 x1 σ=Mt k x0 x1 σ:=by
 cases k with
 | zero=>simp only[ET,Ab]; rfl
 | succ k=>rw[NL,Mc,Mt]; simp only[Mw,AY,AP,Bb,AZ,Ba,Bd,Bc,AV,Be,Ao,A7,Bf,Ag,Ar,Aq,Ak]
noncomputable def JR (k:Nat) (x0:Int) (c0:Option Addr) (σ:Aa):Option (Value × Aa):=match k with
 | 0=>none
 | k+1=>(fI x0 fun x0=>fP c0 fun c0=>fL σ fun σ=>c0.bind fun a1=>(Js σ a1.block a1.off).bind fun p2=>(Mt k p2 x0 σ).bind fun r3=>(DF r3.1).bind fun b4=>fB (!b4) fun y5=>some (.bool y5,r3.2))
theorem T1 (k:Nat) (x0:Int) (c0:Option Addr) (σ:Aa):C2 k x0 c0 σ=JR k x0 c0 σ:=by
 cases k with
 | zero=>simp only[C2,Ab]; rfl
 | succ k=>rw[LB,JK,JR]; simp only[VE,AY,AP,Bb,AZ,Ba,Bd,Bc,AV,Be,Ao,A7,Bf,Ag,Ar,Aq,Ak]
theorem SE (k:Nat) (x0:Int) (c0:Option Addr) (σ:Aa):fn P (XK Kn.b) H k 179 [.int .i64 x0,.pointer c0] σ=C2 k x0 c0 σ:=by
 simp only[C2,Ab]
noncomputable def Rr (k:Nat) (n:FuncId) (l:List Value) (σ:Aa):Option (Value × Aa):=
 if n=179 then (match l with
  | [.int .i64 y1,.pointer y2]=>JR k y1 y2 σ
  | l=>fn P (XK Kn.b) H k 179 l σ) else
 fn P (XK Kn.b) H k n l σ
theorem ff (k:Nat) (n:FuncId) (l:List Value) (σ:Aa):fn P (XK Kn.b) H k n l σ=Rr k n l σ:=by
 unfold Rr
 split
 ·rename_i hn; subst hn
  split
  ·exact (SE k _ _ σ).trans (T1 k _ _ σ)
  ·rfl
 rfl
noncomputable def Va (k:Nat) (f:Value) (args:List Value) (σ:Aa):Option (Value × Aa):=match f with
 | .func (.func n) first cap=>Rr k n (first.toList++args++cap.toList) σ
 | .func (.method nm) first _=>(match first.toList++args with
   | .iface t v::rest=>(Tk P t nm).bind fun n=>Rr k n (v::rest) σ
   | _=>none)
 | _=>none
theorem Xg (k:Nat) (f:Value) (args:List Value) (σ:Aa):M8 k f args σ=Va k f args σ:=by
 simp only[M8,Ab]
 unfold O2 Va
 simp only[ff]
 rfl
noncomputable def FO (k n:Nat) (p0:Option Addr) (c1:Nat) (c2:Nat) (v3:Value) (i4:Int) (x8:Int) (σ:Aa):Option Ay:=match n with
 | 0=>none
 | n+1=>(fP p0 fun p0=>fN c1 fun c1=>fN c2 fun c2=>fI i4 fun i4=>fI x8 fun x8=>fL σ fun σ=>bif decide (x8<i4) then (if 0≤x8∧x8<(c1:Nat) then p0.bind fun a1=>(Ai .i64 σ a1.block (a1.off+x8.toNat*1)).bind fun n2=>(Va k v3 [.int .i64 n2] σ).bind fun r3=>(DF r3.1).bind fun b4=>bif b4 then (some (.ret,[.int .i64 x8],r3.2)) else (FO k n p0 c1 c2 v3 i4 (Ac (x8+(1:Int))) r3.2) else none) else (some (.exit 0,[],σ)))
termination_by structural n
theorem QH (k n:Nat) (p0:Option Addr) (c1:Nat) (c2:Nat) (v3:Value) (i4:Int) (x8:Int) (σ:Aa):C8 k n p0 c1 c2 v3 i4 x8 σ=FO k n p0 c1 c2 v3 i4 x8 σ:=by
 induction n generalizing p0 c1 c2 v3 i4 x8 σ with
 | zero=>simp only[C8,Ab]; rfl
 | succ n ih=>rw[GA,FG,FO]; simp only[Xg,ih,AY,AP,Bb,AZ,Ba,Bd,Bc,AV,Be,Ao,A7,Bf,Ag,Ar,Aq,Ak]
noncomputable def J0 (k:Nat) (x0:Option Addr × Nat × Nat) (x1:Value) (σ:Aa):Option (Value × Aa):=match k with
 | 0=>none
 | k+1=>(fS x0 fun x0=>fL σ fun σ=>(FO k k x0.1 x0.2.1 x0.2.2 x1 ((x0.2.1:Nat):Int) (0:Int) σ).bind fun r5=>if r5.1 = .exit 0 then (fI (-1:Int) fun y6=>some (.int .i64 y6,r5.2.2)) else if r5.1 = .ret then (SH r5.2.1 fun n7=>fI n7 fun y8=>some (.int .i64 y8,r5.2.2)) else none)
theorem SF (k:Nat) (x0:Option Addr × Nat × Nat) (x1:Value) (σ:Aa):E4 k x0 x1 σ=J0 k x0 x1 σ:=by
 cases k with
 | zero=>simp only[E4,Ab]; rfl
 | succ k=>rw[Le,Jj,J0]; simp only[Xg,QH,AY,AP,Bb,AZ,Ba,Bd,Bc,AV,Be,Ao,A7,Bf,Ag,Ar,Aq,Ak]
noncomputable def Hx (k:Nat) (x0:Option Addr × Nat × Nat) (x1:Value) (σ:Aa):Option (Value × Aa):=match k with
 | 0=>none
 | k+1=>(fS x0 fun x0=>fL σ fun σ=>(J0 k (x0.1,x0.2.1,x0.2.2) (x1) σ).bind fun r1=>(BA .i64 r1.1).bind fun n2=>fB (decide (n2≥(0:Int))) fun y3=>some (.bool y3,r1.2))
theorem QG (k:Nat) (x0:Option Addr × Nat × Nat) (x1:Value) (σ:Aa):Dt k x0 x1 σ=Hx k x0 x1 σ:=by
 cases k with
 | zero=>simp only[Dt,Ab]; rfl
 | succ k=>rw[J4,Hw,Hx]; simp only[SF,AY,AP,Bb,AZ,Ba,Bd,Bc,AV,Be,Ao,A7,Bf,Ag,Ar,Aq,Ak]
noncomputable def Ms (k:Nat) (x0:Option Addr) (x1:Int) (x2:Option Addr × Nat × Nat) (σ:Aa):Option (Value × Aa):=match k with
 | 0=>none
 | k+1=>(fP x0 fun x0=>fI x1 fun x1=>fS x2 fun x2=>fL σ fun σ=>CC σ (.cells [.pointer x0] 92 true) fun h1 s2=>(Js s2 h1 0).bind fun p3=>(Gz k p3 s2).bind fun r4=>(DF r4.1).bind fun b5=>bif !b5 then (fI (5:Int) fun y6=>some (.int .i64 y6,r4.2)) else ((Js r4.2 h1 0).bind fun p7=>(Jz k p7 x1 r4.2).bind fun r8=>(DF r8.1).bind fun b9=>(bif !b9 then some (true,r8.2) else (Hx k (x2.1,x2.2.1,x2.2.2) (.func (.func 179) #[] #[.pointer (some ⟨h1,0,none⟩)]) r8.2).bind fun r10=>(DF r10.1).bind fun b11=>some (b11,r10.2)).bind fun r12=>bif r12.1 then (fI (1:Int) fun y13=>some (.int .i64 y13,r12.2)) else (fI (0:Int) fun y14=>some (.int .i64 y14,r12.2))))
theorem VD (k:Nat) (x0:Option Addr) (x1:Int) (x2:Option Addr × Nat × Nat) (σ:Aa):ES k x0 x1 x2 σ=Ms k x0 x1 x2 σ:=by
 cases k with
 | zero=>simp only[ES,Ab]; rfl
 | succ k=>rw[NJ,Ma,Ms]; simp only[Gd,PA,QG,AY,AP,Bb,AZ,Ba,Bd,Bc,AV,Be,Ao,A7,Bf,Ag,Ar,Aq,Ak]
noncomputable def Ox (k:Nat) (x0:Option Addr) (x1:Int) (x2:Int) (σ:Aa):Option (Value × Aa):=match k with
 | 0=>none
 | k+1=>(fP x0 fun x0=>fI x1 fun x1=>fI x2 fun x2=>fL σ fun σ=>x0.bind fun a1=>(Ai .i64 σ a1.block (a1.off+1)).bind fun n2=>x0.bind fun a3=>(Ew σ a3.block (a3.off+2)).bind fun l4=>if (64:Int)=0 then none else if 0≤(Ac ((Ac (x1*n2)).tdiv (64:Int)))∧(Ac ((Ac (x1*n2)).tdiv (64:Int)))<(l4.2.1:Nat) then l4.1.bind fun a5=>(Ai .u64 σ a5.block (a5.off+(Ac ((Ac (x1*n2)).tdiv (64:Int))).toNat*1)).bind fun n6=>(HW k x0 σ).bind fun r7=>(BA .i64 r7.1).bind fun n8=>if (64:Int)=0 then none else if ((Ac (x1*n2)).tmod (64:Int))<0 then none else if (64:Int)=0 then none else if ((Ac (x1*n2)).tmod (64:Int))<0 then none else VG r7.2 a5.block (a5.off+(Ac ((Ac (x1*n2)).tdiv (64:Int))).toNat*1) (.int .u64 (u64 ((BitVec.ofInt 64 (u64 ((BitVec.ofInt 64 n6 &&& ~~~ (BitVec.ofInt 64 (u64 ((u64 (n8))*2 ^ (min ((Ac (x1*n2)).tmod (64:Int)).toNat 64))))).toNat)) ||| BitVec.ofInt 64 (u64 ((u64 (x2))*2 ^ (min ((Ac (x1*n2)).tmod (64:Int)).toNat 64)))).toNat))) fun s9=>some (.tuple #[],s9) else none)
theorem XF (k:Nat) (x0:Option Addr) (x1:Int) (x2:Int) (σ:Aa):FY k x0 x1 x2 σ=Ox k x0 x1 x2 σ:=by
 cases k with
 | zero=>simp only[FY,Ab]; rfl
 | succ k=>rw[P7,Oh,Ox]; simp only[Mw,AY,AP,Bb,AZ,Ba,Bd,Bc,AV,Be,Ao,A7,Bf,Ag,Ar,Aq,Ak]
noncomputable def IQ (k:Nat) (x0:Option Addr) (x1:Int) (x2:Int) (σ:Aa):Option (Value × Aa):=match k with
 | 0=>none
 | k+1=>(fP x0 fun x0=>fI x1 fun x1=>fI x2 fun x2=>fL σ fun σ=>CC σ (.cells [.int .i64 x2] 3 true) fun h1 s2=>(Ms k x0 x1 (some ⟨h1,0,none⟩,1,1) s2).bind fun r3=>(BA .i64 r3.1).bind fun n4=>bif n4 != (0:Int) then (fI n4 fun y5=>some (.int .i64 y5,r3.2)) else ((Ox k x0 x1 x2 r3.2).bind fun r6=>Uk r6.1 (fI (0:Int) fun y7=>some (.int .i64 y7,r6.2))))
theorem Rt (k:Nat) (x0:Option Addr) (x1:Int) (x2:Int) (σ:Aa):CB k x0 x1 x2 σ=IQ k x0 x1 x2 σ:=by
 cases k with
 | zero=>simp only[CB,Ab]; rfl
 | succ k=>rw[P5,Of,IQ]; simp only[VD,XF,AY,AP,Bb,AZ,Ba,Bd,Bc,AV,Be,Ao,A7,Bf,Ag,Ar,Aq,Ak]
noncomputable def Kc (k:Nat) (x0:Option Addr) (x1:Int) (x2_0:Int) (x2_1:Int) (x2_2:Int) (σ:Aa):Option (Value × Aa):=match k with
 | 0=>none
 | k+1=>(fP x0 fun x0=>fI x1 fun x1=>fI x2_0 fun x2_0=>fI x2_1 fun x2_1=>fI x2_2 fun x2_2=>fL σ fun σ=>CC σ (.cells [.int .i64 x2_0,.int .i64 x2_1,.int .i64 x2_2] 33 true) fun h1 s2=>(DN k x0 s2).bind fun r3=>(DF r3.1).bind fun b4=>bif !b4 then (fI (0:Int) fun y5=>fI (5:Int) fun y6=>some (.tuple #[.int .i64 y5,.int .i64 y6],r3.2)) else ((Ai .i64 r3.2 h1 0).bind fun n7=>(Ai .i64 r3.2 h1 (0+1)).bind fun n8=>(Ai .i64 r3.2 h1 (0+1+1)).bind fun n9=>(N6 k n7 n8 n9 r3.2).bind fun r10=>(DF r10.1).bind fun b11=>bif !b11 then (fI (0:Int) fun y12=>fI (2:Int) fun y13=>some (.tuple #[.int .i64 y12,.int .i64 y13],r10.2)) else ((Ai .i64 r10.2 h1 0).bind fun n14=>(Ai .i64 r10.2 h1 (0+1)).bind fun n15=>(Ai .i64 r10.2 h1 (0+1+1)).bind fun n16=>(N7 k n14 n15 n16 r10.2).bind fun r17=>(BA .i64 r17.1).bind fun n18=>(Ot k x0 x1 n18 (-1:Int) r17.2).bind fun r19=>(BA .i64 r19.1).bind fun n20=>bif n20 != (0:Int) then (fI (0:Int) fun y21=>fI n20 fun y22=>some (.tuple #[.int .i64 y21,.int .i64 y22],r19.2)) else (x0.bind fun a23=>(Ai .i64 r19.2 a23.block (a23.off+6)).bind fun n24=>x0.bind fun a25=>VG r19.2 a25.block (a25.off+6) (.int .i64 (Ac (n24+(1:Int)))) fun s26=>x0.bind fun a27=>(Ew s26 a27.block (a27.off+1)).bind fun l28=>x0.bind fun a29=>(Ew s26 a29.block (a29.off+1)).bind fun l30=>x0.bind fun a31=>(Ai .i64 s26 a31.block (a31.off+6)).bind fun n32=>(Ai .i64 s26 h1 0).bind fun n33=>(Ai .i64 s26 h1 (0+1)).bind fun n34=>(Ai .i64 s26 h1 (0+1+1)).bind fun n35=>(RE k n33 n34 n35 s26).bind fun r36=>(BA .i64 r36.1).bind fun n37=>if 0≤x1∧x1<(l28.2.1:Nat) then l28.1.bind fun a38=>VG r36.2 a38.block (a38.off+x1.toNat*1) (.int .i64 n32) fun s39=>if 0≤(Ac (x1+(1:Int)))∧(Ac (x1+(1:Int)))<(l30.2.1:Nat) then l30.1.bind fun a40=>VG s39 a40.block (a40.off+(Ac (x1+(1:Int))).toNat*1) (.int .i64 n37) fun s41=>x0.bind fun a42=>(Js s41 a42.block (a42.off+2)).bind fun p43=>if (2:Int)=0 then none else (IQ k p43 (Ac (x1.tdiv (2:Int))) (1:Int) s41).bind fun r44=>(BA .i64 r44.1).bind fun n45=>x0.bind fun a46=>(qg r44.2 a46.block (a46.off+4)).bind fun m47=>x0.bind fun a48=>(Ai .i64 r44.2 a48.block (a48.off+6)).bind fun n49=>m47.bind fun h51=>(TJ r44.2 h51).bind fun es50=>pe r44.2 h51 (Ol n49 (.int .i64 x1) es50) fun s52=>x0.bind fun a53=>(Ai .i64 s52 a53.block (a53.off+6)).bind fun n54=>fI n54 fun y55=>fI (0:Int) fun y56=>some (.tuple #[.int .i64 y55,.int .i64 y56],s52) else none else none))))
theorem Qx (k:Nat) (x0:Option Addr) (x1:Int) (x2_0:Int) (x2_1:Int) (x2_2:Int) (σ:Aa):Cq k x0 x1 x2_0 x2_1 x2_2 σ=Kc k x0 x1 x2_0 x2_1 x2_2 σ:=by
 cases k with
 | zero=>simp only[Cq,Ab]; rfl
 | succ k=>rw[OJ,MX,Kc]; simp only[RA,R9,Ec,Xr,aY,Rt,AY,AP,Bb,AZ,Ba,Bd,Bc,AV,Be,Ao,A7,Bf,Ag,Ar,Aq,Ak]
noncomputable def Jx (k:Nat) (x0:Option Addr) (σ:Aa):Option (Value × Aa):=match k with
 | 0=>none
 | k+1=>(fP x0 fun x0=>fL σ fun σ=>(Vi P 42 (.pointer x0) (.pointer none)).bind fun e1=>(bif !e1 then x0.bind fun a2=>(Js σ a2.block (a2.off+0)).bind fun p3=>(Vi P 25 (.pointer p3) (.pointer none)).bind fun e4=>some (!e4,σ) else some (false,σ)).bind fun r5=>fB r5.1 fun y6=>some (.bool y6,r5.2))
theorem RX (k:Nat) (x0:Option Addr) (σ:Aa):B6 k x0 σ=Jx k x0 σ:=by
 cases k with
 | zero=>simp only[B6,Ab]; rfl
 | succ k=>rw[Lb,Jg,Jx]; simp only[AY,AP,Bb,AZ,Ba,Bd,Bc,AV,Be,Ao,A7,Bf,Ag,Ar,Aq,Ak]
noncomputable def KT (k:Nat)  (σ:Aa):Option (Value × Aa):=match k with
 | 0=>none
 | k+1=>(fL σ fun σ=>CC σ (.cells [.iface 150 (.agg #[]),.iface 151 (.agg #[]),.iface 152 (.agg #[]),.iface 153 (.agg #[]),.iface 154 (.agg #[])] 116 true) fun h1 s2=>some (.slice (some ⟨h1,0,none⟩) 5 5,s2))
theorem QV (k:Nat)  (σ:Aa):DJ k  σ=KT k  σ:=by
 cases k with
 | zero=>simp only[DJ,Ab]; rfl
 | succ k=>rw[Pv,NV,KT]; simp only[AY,AP,Bb,AZ,Ba,Bd,Bc,AV,Be,Ao,A7,Bf,Ag,Ar,Aq,Ak]
noncomputable def Ty (k:Nat) (x0:Int) (σ:Aa):Option (Value × Aa):=match k with
 | 0=>none
 | k+1=>(fI x0 fun x0=>fL σ fun σ=>(bif decide (x0≥(0:Int)) then some (decide (x0<(8:Int)),σ) else some (false,σ)).bind fun r1=>fB r1.1 fun y2=>some (.bool y2,r1.2))
theorem VU (k:Nat) (x0:Int) (σ:Aa):GH k x0 σ=Ty k x0 σ:=by
 cases k with
 | zero=>simp only[GH,Ab]; rfl
 | succ k=>rw[TI,SU,Ty]; simp only[AY,AP,Bb,AZ,Ba,Bd,Bc,AV,Be,Ao,A7,Bf,Ag,Ar,Aq,Ak]
noncomputable def Kg (k:Nat) (x0:Option Addr) (x1:Int) (σ:Aa):Option (Value × Aa):=match k with
 | 0=>none
 | k+1=>(fP x0 fun x0=>fI x1 fun x1=>fL σ fun σ=>(DN k x0 σ).bind fun r1=>(DF r1.1).bind fun b2=>(bif b2 then some (decide (x1≥(1:Int)),r1.2) else some (false,r1.2)).bind fun r3=>(bif r3.1 then x0.bind fun a4=>(Ew r3.2 a4.block (a4.off+0)).bind fun l5=>some (decide (x1<((l5.2.1:Nat):Int)),r3.2) else some (false,r3.2)).bind fun r6=>fB r6.1 fun y7=>some (.bool y7,r6.2))
theorem Mj (k:Nat) (x0:Option Addr) (x1:Int) (σ:Aa):CH k x0 x1 σ=Kg k x0 x1 σ:=by
 cases k with
 | zero=>simp only[CH,Ab]; rfl
 | succ k=>rw[OM,Na,Kg]; simp only[Ec,AY,AP,Bb,AZ,Ba,Bd,Bc,AV,Be,Ao,A7,Bf,Ag,Ar,Aq,Ak]
noncomputable def KK (k:Nat) (x0_0:Int) (x0_1:Int) (σ:Aa):Option (Value × Aa):=match k with
 | 0=>none
 | k+1=>(fI x0_0 fun x0_0=>fI x0_1 fun x0_1=>fL σ fun σ=>CC σ (.cells [.int .i64 x0_0,.int .i64 x0_1] 104 true) fun h1 s2=>(Ai .i64 s2 h1 0).bind fun n3=>(Ai .i64 s2 h1 (0+1)).bind fun n4=>(Vi P 104 (.agg #[.int .i64 n3,.int .i64 n4]) (.agg #[.int .i64 (0:Int),.int .i64 (0:Int)])).bind fun e5=>fB (!e5) fun y6=>some (.bool y6,s2))
theorem Ue (k:Nat) (x0_0:Int) (x0_1:Int) (σ:Aa):CG k x0_0 x0_1 σ=KK k x0_0 x0_1 σ:=by
 cases k with
 | zero=>simp only[CG,Ab]; rfl
 | succ k=>rw[MA,Ko,KK]; simp only[AY,AP,Bb,AZ,Ba,Bd,Bc,AV,Be,Ao,A7,Bf,Ag,Ar,Aq,Ak]
theorem Th (k:Nat) (x0_0:Int) (x0_1:Int) (σ:Aa):fn P (XK Kn.b) H k 166 [.agg #[.int .i64 x0_0,.int .i64 x0_1]] σ=CG k x0_0 x0_1 σ:=by
 simp only[CG,Ab]
noncomputable def PK (k:Nat) (n:FuncId) (l:List Value) (σ:Aa):Option (Value × Aa):=
 if n=166 then (match l with
  | [.agg ⟨[.int .i64 y1,.int .i64 y2]⟩]=>KK k y1 y2 σ
  | l=>fn P (XK Kn.b) H k 166 l σ) else
 fn P (XK Kn.b) H k n l σ
theorem cK (k:Nat) (n:FuncId) (l:List Value) (σ:Aa):fn P (XK Kn.b) H k n l σ=PK k n l σ:=by
 unfold PK
 split
 ·rename_i hn; subst hn
  split
  ·exact (Th k _ _ σ).trans (Ue k _ _ σ)
  ·rfl
 rfl
noncomputable def Tv (k:Nat) (f:Value) (args:List Value) (σ:Aa):Option (Value × Aa):=match f with
 | .func (.func n) first cap=>PK k n (first.toList++args++cap.toList) σ
 | .func (.method nm) first _=>(match first.toList++args with
   | .iface t v::rest=>(Tk P t nm).bind fun n=>PK k n (v::rest) σ
   | _=>none)
 | _=>none
theorem VS (k:Nat) (f:Value) (args:List Value) (σ:Aa):HF k f args σ=Tv k f args σ:=by
 simp only[HF,Ab]
 unfold O2 Tv
 simp only[cK]
 rfl
noncomputable def Ed (k n:Nat) (p0:Option Addr) (c1:Nat) (c2:Nat) (v3:Value) (i4:Int) (x8:Int) (σ:Aa):Option Ay:=match n with
 | 0=>none
 | n+1=>(fP p0 fun p0=>fN c1 fun c1=>fN c2 fun c2=>fI i4 fun i4=>fI x8 fun x8=>fL σ fun σ=>bif decide (x8<i4) then (if 0≤x8∧x8<(c1:Nat) then p0.bind fun a1=>(Ai .i64 σ a1.block (a1.off+x8.toNat*2)).bind fun n2=>(Ai .i64 σ a1.block (a1.off+x8.toNat*2+1)).bind fun n3=>(Tv k v3 [.agg #[.int .i64 n2,.int .i64 n3]] σ).bind fun r4=>(DF r4.1).bind fun b5=>bif b5 then (some (.ret,[.int .i64 x8],r4.2)) else (Ed k n p0 c1 c2 v3 i4 (Ac (x8+(1:Int))) r4.2) else none) else (some (.exit 0,[],σ)))
termination_by structural n
theorem MT (k n:Nat) (p0:Option Addr) (c1:Nat) (c2:Nat) (v3:Value) (i4:Int) (x8:Int) (σ:Aa):Bo k n p0 c1 c2 v3 i4 x8 σ=Ed k n p0 c1 c2 v3 i4 x8 σ:=by
 induction n generalizing p0 c1 c2 v3 i4 x8 σ with
 | zero=>simp only[Bo,Ab]; rfl
 | succ n ih=>rw[EM,DX,Ed]; simp only[VS,ih,AY,AP,Bb,AZ,Ba,Bd,Bc,AV,Be,Ao,A7,Bf,Ag,Ar,Aq,Ak]
noncomputable def Gt (k:Nat) (x0:Option Addr × Nat × Nat) (x1:Value) (σ:Aa):Option (Value × Aa):=match k with
 | 0=>none
 | k+1=>(fS x0 fun x0=>fL σ fun σ=>(Ed k k x0.1 x0.2.1 x0.2.2 x1 ((x0.2.1:Nat):Int) (0:Int) σ).bind fun r6=>if r6.1 = .exit 0 then (fI (-1:Int) fun y7=>some (.int .i64 y7,r6.2.2)) else if r6.1 = .ret then (SH r6.2.1 fun n8=>fI n8 fun y9=>some (.int .i64 y9,r6.2.2)) else none)
theorem Oy (k:Nat) (x0:Option Addr × Nat × Nat) (x1:Value) (σ:Aa):C5 k x0 x1 σ=Gt k x0 x1 σ:=by
 cases k with
 | zero=>simp only[C5,Ab]; rfl
 | succ k=>rw[HL,Gm,Gt]; simp only[VS,MT,AY,AP,Bb,AZ,Ba,Bd,Bc,AV,Be,Ao,A7,Bf,Ag,Ar,Aq,Ak]
noncomputable def F2 (k:Nat) (x0:Option Addr × Nat × Nat) (x1:Value) (σ:Aa):Option (Value × Aa):=match k with
 | 0=>none
 | k+1=>(fS x0 fun x0=>fL σ fun σ=>(Gt k (x0.1,x0.2.1,x0.2.2) (x1) σ).bind fun r1=>(BA .i64 r1.1).bind fun n2=>fB (decide (n2≥(0:Int))) fun y3=>some (.bool y3,r1.2))
theorem Ht (k:Nat) (x0:Option Addr × Nat × Nat) (x1:Value) (σ:Aa):Cc k x0 x1 σ=F2 k x0 x1 σ:=by
 cases k with
 | zero=>simp only[Cc,Ab]; rfl
 | succ k=>rw[GQ,Fs,F2]; simp only[Oy,AY,AP,Bb,AZ,Ba,Bd,Bc,AV,Be,Ao,A7,Bf,Ag,Ar,Aq,Ak]
noncomputable def HT (k n:Nat) (p0:Option Addr) (i1:Int) (h2:Nat) (i3:Int) (x54:Int) (σ:Aa):Option Ay:=match n with
 | 0=>none
 | n+1=>(fP p0 fun p0=>fI i1 fun i1=>fN h2 fun h2=>fI i3 fun i3=>fI x54 fun x54=>fL σ fun σ=>bif decide (x54<i3) then (p0.bind fun a25=>(Ew σ a25.block (a25.off+0)).bind fun l26=>(Ai .i64 σ h2 0).bind fun n27=>(Ai .i64 σ h2 (0+1)).bind fun n28=>if 0≤(Ac (i1+x54))∧(Ac (i1+x54))<(l26.2.1:Nat) then l26.1.bind fun a29=>T8 σ a29.block (a29.off+(Ac (i1+x54)).toNat*2) [.int .i64 n27,.int .i64 n28] fun s30=>HT k n p0 i1 h2 i3 (Ac (x54+(1:Int))) s30 else none) else (some (.exit 1,[],σ)))
termination_by structural n
theorem Uf (k n:Nat) (p0:Option Addr) (i1:Int) (h2:Nat) (i3:Int) (x54:Int) (σ:Aa):Dm k n p0 i1 h2 i3 x54 σ=HT k n p0 i1 h2 i3 x54 σ:=by
 induction n generalizing p0 i1 h2 i3 x54 σ with
 | zero=>simp only[Dm,Ab]; rfl
 | succ n ih=>rw[IG,HC,HT]; simp only[Ec,VU,Mj,Ht,ih,AY,AP,Bb,AZ,Ba,Bd,Bc,AV,Be,Ao,A7,Bf,Ag,Ar,Aq,Ak]
noncomputable def Kf (k:Nat) (x0:Option Addr) (x1:Int) (x2:Int) (x3_0:Int) (x3_1:Int) (x4_0:Int) (x4_1:Int) (σ:Aa):Option (Value × Aa):=match k with
 | 0=>none
 | k+1=>(fP x0 fun x0=>fI x1 fun x1=>fI x2 fun x2=>fI x3_0 fun x3_0=>fI x3_1 fun x3_1=>fI x4_0 fun x4_0=>fI x4_1 fun x4_1=>fL σ fun σ=>CC σ (.cells [.int .i64 x3_0,.int .i64 x3_1] 104 true) fun h1 s2=>CC s2 (.cells [.int .i64 x4_0,.int .i64 x4_1] 104 true) fun h3 s4=>(DN k x0 s4).bind fun r5=>(DF r5.1).bind fun b6=>bif !b6 then (fI (5:Int) fun y7=>some (.int .i64 y7,r5.2)) else ((Kg k x0 x1 r5.2).bind fun r8=>(DF r8.1).bind fun b9=>(bif !b9 then some (true,r8.2) else some (decide (x2<(1:Int)),r8.2)).bind fun r10=>(bif r10.1 then some (true,r10.2) else x0.bind fun a11=>(Ew r10.2 a11.block (a11.off+0)).bind fun l12=>some (decide (x2>(Ac (((l12.2.1:Nat):Int)-x1))),r10.2)).bind fun r13=>(bif r13.1 then some (true,r13.2) else (Ai .i64 r13.2 h1 (0+1)).bind fun n14=>(Ty k n14 r13.2).bind fun r15=>(DF r15.1).bind fun b16=>some (!b16,r15.2)).bind fun r17=>bif r17.1 then (fI (1:Int) fun y18=>some (.int .i64 y18,r17.2)) else (x0.bind fun a19=>(Ew r17.2 a19.block (a19.off+0)).bind fun l20=>(KL 104 2 (l20.1,l20.2.1,l20.2.2) (some (.int .i64 x1)) (some (.int .i64 (Ac (x1+x2)))) none r17.2).bind fun l21=>(F2 k (l21.1,l21.2.1,l21.2.2) (.func (.func 166) #[] #[]) r17.2).bind fun r22=>(DF r22.1).bind fun b23=>bif b23 then (fI (8:Int) fun y24=>some (.int .i64 y24,r22.2)) else ((HT k k x0 x1 h3 x2 (0:Int) r22.2).bind fun r31=>if r31.1 = .exit 1 then (x0.bind fun a32=>(Ew r31.2.2 a32.block (a32.off+0)).bind fun l33=>(Ai .i64 r31.2.2 h1 0).bind fun n34=>(Ai .i64 r31.2.2 h1 (0+1)).bind fun n35=>if 0≤x1∧x1<(l33.2.1:Nat) then l33.1.bind fun a36=>T8 r31.2.2 a36.block (a36.off+x1.toNat*2) [.int .i64 n34,.int .i64 n35] fun s37=>fI (0:Int) fun y38=>some (.int .i64 y38,s37) else none) else none))))
theorem Qz (k:Nat) (x0:Option Addr) (x1:Int) (x2:Int) (x3_0:Int) (x3_1:Int) (x4_0:Int) (x4_1:Int) (σ:Aa):DZ k x0 x1 x2 x3_0 x3_1 x4_0 x4_1 σ=Kf k x0 x1 x2 x3_0 x3_1 x4_0 x4_1 σ:=by
 cases k with
 | zero=>simp only[DZ,Ab]; rfl
 | succ k=>rw[OL,MZ,Kf]; simp only[Ec,VU,Mj,Ht,Uf,AY,AP,Bb,AZ,Ba,Bd,Bc,AV,Be,Ao,A7,Bf,Ag,Ar,Aq,Ak]
noncomputable def Jy (k:Nat) (x0:Option Addr) (x1:Int) (x2:Int) (x3:Int) (σ:Aa):Option (Value × Aa):=match k with
 | 0=>none
 | k+1=>(fP x0 fun x0=>fI x1 fun x1=>fI x2 fun x2=>fI x3 fun x3=>fL σ fun σ=>(Kf k x0 x1 x2 (2:Int) x3 (3:Int) x3 σ).bind fun r1=>(BA .i64 r1.1).bind fun n2=>fI n2 fun y3=>some (.int .i64 y3,r1.2))
theorem MK (k:Nat) (x0:Option Addr) (x1:Int) (x2:Int) (x3:Int) (σ:Aa):Dy k x0 x1 x2 x3 σ=Jy k x0 x1 x2 x3 σ:=by
 cases k with
 | zero=>simp only[Dy,Ab]; rfl
 | succ k=>rw[Lc,Jh,Jy]; simp only[Qz,AY,AP,Bb,AZ,Ba,Bd,Bc,AV,Be,Ao,A7,Bf,Ag,Ar,Aq,Ak]
noncomputable def F1 (k n:Nat) (p0:Option Addr) (i1:Int) (x7:Int) (σ:Aa):Option Ay:=match n with
 | 0=>none
 | n+1=>(fP p0 fun p0=>fI i1 fun i1=>fI x7 fun x7=>fL σ fun σ=>p0.bind fun a1=>(Js σ a1.block (a1.off+0)).bind fun p2=>(Et k p2 σ).bind fun r3=>(BA .i64 r3.1).bind fun n4=>bif decide ((Ac (x7+i1))≤n4) then (p0.bind fun a5=>(Js r3.2 a5.block (a5.off+0)).bind fun p6=>p0.bind fun a7=>(Ai .i64 r3.2 a7.block (a7.off+1)).bind fun n8=>(Jy k p6 x7 i1 n8 r3.2).bind fun r9=>(BA .i64 r9.1).bind fun n10=>bif n10 == (0:Int) then (some (.ret,[.int .i64 (Ac (x7*(64:Int))),.bool true],r9.2)) else (F1 k n p0 i1 (Ac (x7+(1:Int))) r9.2)) else (some (.exit 0,[],r3.2)))
termination_by structural n
theorem PG (k n:Nat) (p0:Option Addr) (i1:Int) (x7:Int) (σ:Aa):BU k n p0 i1 x7 σ=F1 k n p0 i1 x7 σ:=by
 induction n generalizing p0 i1 x7 σ with
 | zero=>simp only[BU,Ab]; rfl
 | succ n ih=>rw[IZ,GZ,F1]; simp only[CZ,MK,ih,AY,AP,Bb,AZ,Ba,Bd,Bc,AV,Be,Ao,A7,Bf,Ag,Ar,Aq,Ak]
noncomputable def IP (k:Nat) (x0:Option Addr) (x1:Int) (σ:Aa):Option (Value × Aa):=match k with
 | 0=>none
 | k+1=>(fP x0 fun x0=>fI x1 fun x1=>fL σ fun σ=>if (64:Int)=0 then none else (F1 k k x0 (Ac ((Ac ((Ac (x1+(64:Int)))-(1:Int))).tdiv (64:Int))) (1:Int) σ).bind fun r11=>if r11.1 = .exit 0 then (fI (0:Int) fun y12=>fB false fun y13=>some (.tuple #[.int .i64 y12,.bool y13],r11.2.2)) else if r11.1 = .ret then (je r11.2.1 fun n14 b15=>fI n14 fun y16=>fB b15 fun y17=>some (.tuple #[.int .i64 y16,.bool y17],r11.2.2)) else none)
theorem Ry (k:Nat) (x0:Option Addr) (x1:Int) (σ:Aa):BW k x0 x1 σ=IP k x0 x1 σ:=by
 cases k with
 | zero=>simp only[BW,Ab]; rfl
 | succ k=>rw[Kz,I8,IP]; simp only[CZ,MK,PG,AY,AP,Bb,AZ,Ba,Bd,Bc,AV,Be,Ao,A7,Bf,Ag,Ar,Aq,Ak]
theorem QK (k:Nat) (x0:Option Addr) (x1:Int) (σ:Aa):fn P (XK Kn.b) H k 99 [.pointer x0,.int .i64 x1] σ=BW k x0 x1 σ:=by
 simp only[BW,Ab]
noncomputable def Kb (k:Nat) (x0:Option Addr) (x1:Int) (x2:Int) (σ:Aa):Option (Value × Aa):=match k with
 | 0=>none
 | k+1=>(fP x0 fun x0=>fI x1 fun x1=>fI x2 fun x2=>fL σ fun σ=>(Kf k x0 x1 (1:Int) (1:Int) x2 (0:Int) (0:Int) σ).bind fun r1=>(BA .i64 r1.1).bind fun n2=>fI n2 fun y3=>some (.int .i64 y3,r1.2))
theorem Mh (k:Nat) (x0:Option Addr) (x1:Int) (x2:Int) (σ:Aa):Cp k x0 x1 x2 σ=Kb k x0 x1 x2 σ:=by
 cases k with
 | zero=>simp only[Cp,Ab]; rfl
 | succ k=>rw[OI,MW,Kb]; simp only[Qz,AY,AP,Bb,AZ,Ba,Bd,Bc,AV,Be,Ao,A7,Bf,Ag,Ar,Aq,Ak]
noncomputable def F0 (k n:Nat) (p0:Option Addr) (h1:Nat) (x4:Int) (σ:Aa):Option Ay:=match n with
 | 0=>none
 | n+1=>(fP p0 fun p0=>fN h1 fun h1=>fI x4 fun x4=>fL σ fun σ=>p0.bind fun a3=>(Js σ a3.block (a3.off+0)).bind fun p4=>(Et k p4 σ).bind fun r5=>(BA .i64 r5.1).bind fun n6=>bif decide (x4<n6) then (p0.bind fun a7=>(Js r5.2 a7.block (a7.off+0)).bind fun p8=>p0.bind fun a9=>(Ai .i64 r5.2 a9.block (a9.off+1)).bind fun n10=>(Kb k p8 x4 n10 r5.2).bind fun r11=>(BA .i64 r11.1).bind fun n12=>bif n12 == (0:Int) then (T8 r11.2 h1 0 [.int .i64 (Ac (x4*(64:Int))),.int .i64 (Ac ((Ac (x4+(1:Int)))*(64:Int)))] fun s13=>some (.ret,[.bool true],s13)) else (F0 k n p0 h1 (Ac (x4+(1:Int))) r11.2)) else (some (.exit 0,[],r5.2)))
termination_by structural n
theorem PF (k n:Nat) (p0:Option Addr) (h1:Nat) (x4:Int) (σ:Aa):BS k n p0 h1 x4 σ=F0 k n p0 h1 x4 σ:=by
 induction n generalizing p0 h1 x4 σ with
 | zero=>simp only[BS,Ab]; rfl
 | succ n ih=>rw[Gn,Fp,F0]; simp only[CZ,Mh,ih,AY,AP,Bb,AZ,Ba,Bd,Bc,AV,Be,Ao,A7,Bf,Ag,Ar,Aq,Ak]
noncomputable def Fe (k:Nat) (x0:Option Addr) (σ:Aa):Option (Value × Aa):=match k with
 | 0=>none
 | k+1=>(fP x0 fun x0=>fL σ fun σ=>CC σ (.cells [.int .i64 (0:Int),.int .i64 (0:Int)] 120 true) fun h1 s2=>(F0 k k x0 h1 (1:Int) s2).bind fun r14=>if r14.1 = .exit 0 then (T8 r14.2.2 h1 0 [.int .i64 (0:Int),.int .i64 (0:Int)] fun s15=>(((VV s15 h1 0 2).bind fun v16=>some (.agg v16.toArray)).bind fun v17=>some [v17,.bool false]).bind fun vs18=>some (Q9 vs18,s15)) else if r14.1 = .ret then (pq r14.2.1 fun b19=>(((VV r14.2.2 h1 0 2).bind fun v20=>some (.agg v20.toArray)).bind fun v21=>some [v21,.bool b19]).bind fun vs22=>some (Q9 vs22,r14.2.2)) else none)
theorem DG (k:Nat) (x0:Option Addr) (σ:Aa):Bt k x0 σ=Fe k x0 σ:=by
 cases k with
 | zero=>simp only[Bt,Ab]; rfl
 | succ k=>rw[Ky,I7,Fe]; simp only[CZ,Mh,PF,AY,AP,Bb,AZ,Ba,Bd,Bc,AV,Be,Ao,A7,Bf,Ag,Ar,Aq,Ak]
noncomputable def Ff (k:Nat) (x0:Option Addr) (x1:Option Addr × Nat × Nat) (σ:Aa):Option (Value × Aa):=match k with
 | 0=>none
 | k+1=>(fP x0 fun x0=>fS x1 fun x1=>fL σ fun σ=>bif decide (((x1.2.1:Nat):Int)>(0:Int)) then (if 0≤(0:Int)∧(0:Int)<(x1.2.1:Nat) then x1.1.bind fun a1=>(Ai .i64 σ a1.block (a1.off+(0:Int).toNat*2+0)).bind fun n2=>fI n2 fun y3=>fB true fun y4=>some (.tuple #[.int .i64 y3,.bool y4],σ) else none) else ((Fe k x0 σ).bind fun r5=>(Zq r5.1).bind fun q6=>if q6.length=2 then q6.head?.bind fun v7=>cG v7 fun n8 n9=>q6.tail.head?.bind fun v10=>(DF v10).bind fun b11=>CC r5.2 (.cells [.int .i64 (0:Int),.int .i64 (0:Int)] 120 true) fun h12 s13=>T8 s13 h12 0 [.int .i64 n8,.int .i64 n9] fun s14=>(Ai .i64 s14 h12 (0+0)).bind fun n15=>fI n15 fun y16=>fB b11 fun y17=>some (.tuple #[.int .i64 y16,.bool y17],s14) else none))
theorem HZ (k:Nat) (x0:Option Addr) (x1:Option Addr × Nat × Nat) (σ:Aa):AO k x0 x1 σ=Ff k x0 x1 σ:=by
 cases k with
 | zero=>simp only[AO,Ab]; rfl
 | succ k=>rw[K6,I9,Ff]; simp only[DG,AY,AP,Bb,AZ,Ba,Bd,Bc,AV,Be,Ao,A7,Bf,Ag,Ar,Aq,Ak]
noncomputable def HV (k n:Nat) (p0:Option Addr) (i1:Int) (x8:Int) (σ:Aa):Option Ay:=match n with
 | 0=>none
 | n+1=>(fP p0 fun p0=>fI i1 fun i1=>fI x8 fun x8=>fL σ fun σ=>p0.bind fun a5=>(Ai .i64 σ a5.block (a5.off+0)).bind fun n6=>bif decide (x8<n6) then ((IU k p0 x8 σ).bind fun r7=>(BA .i64 r7.1).bind fun n8=>bif n8 == i1 then (some (.ret,[.int .i64 x8,.int .i64 (0:Int)],r7.2)) else (HV k n p0 i1 (Ac (x8+(1:Int))) r7.2)) else (some (.exit 0,[],σ)))
termination_by structural n
theorem Uj (k n:Nat) (p0:Option Addr) (i1:Int) (x8:Int) (σ:Aa):Dr k n p0 i1 x8 σ=HV k n p0 i1 x8 σ:=by
 induction n generalizing p0 i1 x8 σ with
 | zero=>simp only[Dr,Ab]; rfl
 | succ n ih=>rw[MG,Ku,HV]; simp only[Gd,HX,ih,AY,AP,Bb,AZ,Ba,Bd,Bc,AV,Be,Ao,A7,Bf,Ag,Ar,Aq,Ak]
noncomputable def Kh (k:Nat) (x0:Option Addr) (x1:Int) (x2:Int) (σ:Aa):Option (Value × Aa):=match k with
 | 0=>none
 | k+1=>(fP x0 fun x0=>fI x1 fun x1=>fI x2 fun x2=>fL σ fun σ=>(Gz k x0 σ).bind fun r1=>(DF r1.1).bind fun b2=>bif !b2 then (fI (0:Int) fun y3=>fI (5:Int) fun y4=>some (.tuple #[.int .i64 y3,.int .i64 y4],r1.2)) else ((HV k k x0 x2 (if (0:Int)>x1 then (0:Int) else x1) r1.2).bind fun r9=>if r9.1 = .exit 0 then (fI (0:Int) fun y10=>fI (4:Int) fun y11=>some (.tuple #[.int .i64 y10,.int .i64 y11],r9.2.2)) else if r9.1 = .ret then (SI r9.2.1 fun n12 n13=>fI n12 fun y14=>fI n13 fun y15=>some (.tuple #[.int .i64 y14,.int .i64 y15],r9.2.2)) else none))
theorem QE (k:Nat) (x0:Option Addr) (x1:Int) (x2:Int) (σ:Aa):CJ k x0 x1 x2 σ=Kh k x0 x1 x2 σ:=by
 cases k with
 | zero=>simp only[CJ,Ab]; rfl
 | succ k=>rw[OQ,Nh,Kh]; simp only[Gd,HX,Uj,AY,AP,Bb,AZ,Ba,Bd,Bc,AV,Be,Ao,A7,Bf,Ag,Ar,Aq,Ak]
noncomputable def GJ (k n:Nat) (p0:Option Addr) (i1:Int) (x7:Option Addr × Nat × Nat) (x8:Int) (x9:Int) (σ:Aa):Option Ay:=match n with
 | 0=>none
 | n+1=>(fP p0 fun p0=>fI i1 fun i1=>fS x7 fun x7=>fI x8 fun x8=>fI x9 fun x9=>fL σ fun σ=>(bif x9 == (0:Int) then some (decide ((Ac ((2:Int)*x8))<i1),σ) else some (false,σ)).bind fun r6=>bif r6.1 then (CC r6.2 (.cells [.int .i64 (Ac ((2:Int)*x8))] 3 true) fun h7 s8=>(Bv P 3 (x7.1,x7.2.1,x7.2.2) (some ⟨h7,0,none⟩,1,1) s8).bind fun r9=>fR r9 fun r9=>p0.bind fun a10=>(Js r9.2 a10.block (a10.off+2)).bind fun p11=>(Kh k p11 (Ac (x8+(1:Int))) (1:Int) r9.2).bind fun r12=>Gu r12.1 fun n13 n14=>GJ k n p0 i1 (r9.1.1,r9.1.2.1,r9.1.2.2) n13 n14 r12.2) else (some (.exit 0,[.slice x7.1 x7.2.1 x7.2.2],r6.2)))
termination_by structural n
theorem St (k n:Nat) (p0:Option Addr) (i1:Int) (x7:Option Addr × Nat × Nat) (x8:Int) (x9:Int) (σ:Aa):BO k n p0 i1 x7 x8 x9 σ=GJ k n p0 i1 x7 x8 x9 σ:=by
 induction n generalizing p0 i1 x7 x8 x9 σ with
 | zero=>simp only[BO,Ab]; rfl
 | succ n ih=>rw[FH,Fq,GJ]; simp only[QE,ih,AY,AP,Bb,AZ,Ba,Bd,Bc,AV,Be,Ao,A7,Bf,Ag,Ar,Aq,Ak]
noncomputable def Lw (k:Nat) (x0:Option Addr) (x1:Int) (x2:Int) (σ:Aa):Option (Value × Aa):=match k with
 | 0=>none
 | k+1=>(fP x0 fun x0=>fI x1 fun x1=>fI x2 fun x2=>fL σ fun σ=>x0.bind fun a1=>(Js σ a1.block (a1.off+2)).bind fun p2=>if (2:Int)=0 then none else (Kh k p2 (Ac (x1.tdiv (2:Int))) (1:Int) σ).bind fun r3=>Gu r3.1 fun n4 n5=>(GJ k k x0 x2 (none,0,0) n4 n5 r3.2).bind fun r15=>if r15.1 = .exit 0 then (Zs r15.2.1 fun l16=>some (.slice l16.1 l16.2.1 l16.2.2,r15.2.2)) else none)
theorem UG (k:Nat) (x0:Option Addr) (x1:Int) (x2:Int) (σ:Aa):EA k x0 x1 x2 σ=Lw k x0 x1 x2 σ:=by
 cases k with
 | zero=>simp only[EA,Ab]; rfl
 | succ k=>rw[Nq,Ll,Lw]; simp only[QE,St,AY,AP,Bb,AZ,Ba,Bd,Bc,AV,Be,Ao,A7,Bf,Ag,Ar,Aq,Ak]
noncomputable def Iz (k:Nat) (x0:Option Addr) (x1:Int) (σ:Aa):Option (Value × Aa):=match k with
 | 0=>none
 | k+1=>(fP x0 fun x0=>fI x1 fun x1=>fL σ fun σ=>(DN k x0 σ).bind fun r1=>(DF r1.1).bind fun b2=>(bif !b2 then some (true,r1.2) else some (decide (x1<(0:Int)),r1.2)).bind fun r3=>(bif r3.1 then some (true,r3.2) else x0.bind fun a4=>(Ew r3.2 a4.block (a4.off+0)).bind fun l5=>some (decide (x1≥((l5.2.1:Nat):Int)),r3.2)).bind fun r6=>bif r6.1 then (some (.slice none 0 0,r6.2)) else ((Lw k x0 (Ac (x1*(64:Int))) (Ac ((Ac (x1+(1:Int)))*(64:Int))) r6.2).bind fun r7=>(H7 r7.1).bind fun l8=>some (.slice l8.1 l8.2.1 l8.2.2,r7.2)))
theorem Gr (k:Nat) (x0:Option Addr) (x1:Int) (σ:Aa):Ck k x0 x1 σ=Iz k x0 x1 σ:=by
 cases k with
 | zero=>simp only[Ck,Ab]; rfl
 | succ k=>rw[Np,Lk,Iz]; simp only[Ec,UG,AY,AP,Bb,AZ,Ba,Bd,Bc,AV,Be,Ao,A7,Bf,Ag,Ar,Aq,Ak]
noncomputable def KU (k:Nat) (x0:Option Addr) (x1:Int) (σ:Aa):Option (Value × Aa):=match k with
 | 0=>none
 | k+1=>(fP x0 fun x0=>fI x1 fun x1=>fL σ fun σ=>(Kg k x0 x1 σ).bind fun r1=>(DF r1.1).bind fun b2=>(bif b2 then x0.bind fun a3=>(Ew r1.2 a3.block (a3.off+0)).bind fun l4=>if 0≤x1∧x1<(l4.2.1:Nat) then l4.1.bind fun a5=>(Ai .i64 r1.2 a5.block (a5.off+x1.toNat*2+0)).bind fun n6=>some (n6 == (1:Int),r1.2) else none else some (false,r1.2)).bind fun r7=>fB r7.1 fun y8=>some (.bool y8,r7.2))
theorem HN (k:Nat) (x0:Option Addr) (x1:Int) (σ:Aa):Ca k x0 x1 σ=KU k x0 x1 σ:=by
 cases k with
 | zero=>simp only[Ca,Ab]; rfl
 | succ k=>rw[Lo,KM,KU]; simp only[Mj,AY,AP,Bb,AZ,Ba,Bd,Bc,AV,Be,Ao,A7,Bf,Ag,Ar,Aq,Ak]
noncomputable def Ix (k:Nat) (x0:Int) (c0:Option Addr) (c1:Option Addr) (σ:Aa):Option (Value × Aa):=match k with
 | 0=>none
 | k+1=>(fI x0 fun x0=>fP c0 fun c0=>fP c1 fun c1=>fL σ fun σ=>c0.bind fun a1=>(Ai .i64 σ a1.block a1.off).bind fun n2=>(bif decide (x0>n2) then (c1.bind fun a3=>(Ew σ a3.block a3.off).bind fun l4=>c0.bind fun a5=>(Ai .i64 σ a5.block a5.off).bind fun n6=>c0.bind fun a7=>(Ai .i64 σ a7.block a7.off).bind fun n8=>CC σ (.cells [.int .i64 n6,.int .i64 (Ac (x0-n8))] 51 true) fun h9 s10=>(Bv P 51 (l4.1,l4.2.1,l4.2.2) (some ⟨h9,0,none⟩,1,1) s10).bind fun r11=>fR r11 fun r11=>c1.bind fun a12=>VG r11.2 a12.block a12.off (.slice r11.1.1 r11.1.2.1 r11.1.2.2) fun s13=>some (.normal,[],s13)) else (some (.normal,[],σ)):Option Ay).bind fun r14=>if r14.1 = .normal then (some (.tuple #[],r14.2.2)) else none)
theorem OU (k:Nat) (x0:Int) (c0:Option Addr) (c1:Option Addr) (σ:Aa):C6 k x0 c0 c1 σ=Ix k x0 c0 c1 σ:=by
 cases k with
 | zero=>simp only[C6,Ab]; rfl
 | succ k=>rw[Jk,Iq,Ix]; simp only[AY,AP,Bb,AZ,Ba,Bd,Bc,AV,Be,Ao,A7,Bf,Ag,Ar,Aq,Ak]
noncomputable def Iy (k n:Nat) (p0:Option Addr) (h1:Nat) (h2:Nat) (p3:Option Addr) (c4:Nat) (c5:Nat) (i6:Int) (x21:Int) (σ:Aa):Option Ay:=match n with
 | 0=>none
 | n+1=>(fP p0 fun p0=>fN h1 fun h1=>fN h2 fun h2=>fP p3 fun p3=>fN c4 fun c4=>fN c5 fun c5=>fI i6 fun i6=>fI x21 fun x21=>fL σ fun σ=>bif decide (x21<i6) then (if 0≤x21∧x21<(c4:Nat) then p3.bind fun a10=>(Ai .i64 σ a10.block (a10.off+x21.toNat*1)).bind fun n11=>(Ix k n11 (some ⟨h1,0,none⟩) (some ⟨h2,0,none⟩) σ).bind fun r12=>Uk r12.1 ((GV k p0 n11 r12.2).bind fun r13=>(BA .i64 r13.1).bind fun n14=>VG r13.2 h1 0 (.int .i64 (Ac (n11+n14))) fun s15=>Iy k n p0 h1 h2 p3 c4 c5 i6 (Ac (x21+(1:Int))) s15) else none) else (some (.exit 0,[],σ)))
termination_by structural n
theorem UF (k n:Nat) (p0:Option Addr) (h1:Nat) (h2:Nat) (p3:Option Addr) (c4:Nat) (c5:Nat) (i6:Int) (x21:Int) (σ:Aa):CX k n p0 h1 h2 p3 c4 c5 i6 x21 σ=Iy k n p0 h1 h2 p3 c4 c5 i6 x21 σ:=by
 induction n generalizing p0 h1 h2 p3 c4 c5 i6 x21 σ with
 | zero=>simp only[CX,Ab]; rfl
 | succ n ih=>rw[Jl,Ir,Iy]; simp only[Gr,HN,Fy,OU,ih,AY,AP,Bb,AZ,Ba,Bd,Bc,AV,Be,Ao,A7,Bf,Ag,Ar,Aq,Ak]
noncomputable def Oo (k:Nat) (x0:Option Addr) (x1:Int) (σ:Aa):Option (Value × Aa):=match k with
 | 0=>none
 | k+1=>(fP x0 fun x0=>fI x1 fun x1=>fL σ fun σ=>(KU k x0 x1 σ).bind fun r1=>(DF r1.1).bind fun b2=>bif !b2 then (some (.slice none 0 0,r1.2)) else (CC r1.2 (.cells [.slice none 0 0] 46 true) fun h3 s4=>CC s4 (.cells [.int .i64 (0:Int)] 3 true) fun h5 s6=>VG s6 h5 0 (.int .i64 (Ac (x1*(64:Int)))) fun s7=>(Iz k x0 x1 s7).bind fun r8=>(H7 r8.1).bind fun l9=>(Iy k k x0 h5 h3 l9.1 l9.2.1 l9.2.2 ((l9.2.1:Nat):Int) (0:Int) r8.2).bind fun r16=>if r16.1 = .exit 0 then ((Ix k (Ac ((Ac (x1+(1:Int)))*(64:Int))) (some ⟨h5,0,none⟩) (some ⟨h3,0,none⟩) r16.2.2).bind fun r17=>Uk r17.1 ((Ew r17.2 h3 0).bind fun l18=>some (.slice l18.1 l18.2.1 l18.2.2,r17.2))) else none))
theorem Nx (k:Nat) (x0:Option Addr) (x1:Int) (σ:Aa):DK k x0 x1 σ=Oo k x0 x1 σ:=by
 cases k with
 | zero=>simp only[DK,Ab]; rfl
 | succ k=>rw[Iv,IA,Oo]; simp only[Gr,HN,Fy,OU,UF,AY,AP,Bb,AZ,Ba,Bd,Bc,AV,Be,Ao,A7,Bf,Ag,Ar,Aq,Ak]
noncomputable def N5 (k:Nat) (x0:Option Addr) (x1:Int) (σ:Aa):Option (Value × Aa):=match k with
 | 0=>none
 | k+1=>(fP x0 fun x0=>fI x1 fun x1=>fL σ fun σ=>(bif decide (x1<(0:Int)) then some (true,σ) else (Et k x0 σ).bind fun r1=>(BA .i64 r1.1).bind fun n2=>some (decide (x1≥n2),r1.2)).bind fun r3=>bif r3.1 then (fI (-1:Int) fun y4=>some (.int .i64 y4,r3.2)) else (x0.bind fun a5=>(Ew r3.2 a5.block (a5.off+0)).bind fun l6=>if 0≤x1∧x1<(l6.2.1:Nat) then l6.1.bind fun a7=>(Ai .i64 r3.2 a7.block (a7.off+x1.toNat*2+0)).bind fun n8=>fI n8 fun y9=>some (.int .i64 y9,r3.2) else none))
theorem Qy (k:Nat) (x0:Option Addr) (x1:Int) (σ:Aa):BX k x0 x1 σ=N5 k x0 x1 σ:=by
 cases k with
 | zero=>simp only[BX,Ab]; rfl
 | succ k=>rw[OK,MY,N5]; simp only[CZ,AY,AP,Bb,AZ,Ba,Bd,Bc,AV,Be,Ao,A7,Bf,Ag,Ar,Aq,Ak]
noncomputable def Fh (k n:Nat) (p0:Option Addr) (i1:Int) (x3:Option Addr × Nat × Nat) (x10:Int) (σ:Aa):Option Ay:=match n with
 | 0=>none
 | n+1=>(fP p0 fun p0=>fI i1 fun i1=>fS x3 fun x3=>fI x10 fun x10=>fL σ fun σ=>bif decide (x10<i1) then (p0.bind fun a5=>(Js σ a5.block (a5.off+0)).bind fun p6=>(N5 k p6 x10 σ).bind fun r7=>(BA .i64 r7.1).bind fun n8=>(bif n8 == (1:Int) then p0.bind fun a9=>(Js r7.2 a9.block (a9.off+0)).bind fun p10=>(Ke k p10 x10 r7.2).bind fun r11=>(BA .i64 r11.1).bind fun n12=>p0.bind fun a13=>(Ai .i64 r11.2 a13.block (a13.off+1)).bind fun n14=>some (n12 == n14,r11.2) else some (false,r7.2)).bind fun r15=>(bif r15.1 then (CC r15.2 (.cells [.int .i64 x10] 3 true) fun h16 s17=>(Bv P 3 (x3.1,x3.2.1,x3.2.2) (some ⟨h16,0,none⟩,1,1) s17).bind fun r18=>fR r18 fun r18=>some (.normal,[.slice r18.1.1 r18.1.2.1 r18.1.2.2],r18.2)) else (some (.normal,[.slice x3.1 x3.2.1 x3.2.2],r15.2)):Option Ay).bind fun r19=>if r19.1 = .normal then (Zs r19.2.1 fun l20=>Fh k n p0 i1 (l20.1,l20.2.1,l20.2.2) (Ac (x10+(1:Int))) r19.2.2) else none) else (some (.exit 0,[.slice x3.1 x3.2.1 x3.2.2],σ)))
termination_by structural n
theorem Ph (k n:Nat) (p0:Option Addr) (i1:Int) (x3:Option Addr × Nat × Nat) (x10:Int) (σ:Aa):Bw k n p0 i1 x3 x10 σ=Fh k n p0 i1 x3 x10 σ:=by
 induction n generalizing p0 i1 x3 x10 σ with
 | zero=>simp only[Bw,Ab]; rfl
 | succ n ih=>rw[FQ,Fg,Fh]; simp only[CZ,Qy,Mi,ih,AY,AP,Bb,AZ,Ba,Bd,Bc,AV,Be,Ao,A7,Bf,Ag,Ar,Aq,Ak]
noncomputable def Gk (k:Nat) (x0:Option Addr) (σ:Aa):Option (Value × Aa):=match k with
 | 0=>none
 | k+1=>(fP x0 fun x0=>fL σ fun σ=>x0.bind fun a1=>(Js σ a1.block (a1.off+0)).bind fun p2=>(Et k p2 σ).bind fun r3=>(BA .i64 r3.1).bind fun n4=>(Fh k k x0 n4 (none,0,0) (0:Int) r3.2).bind fun r21=>if r21.1 = .exit 0 then (Zs r21.2.1 fun l22=>some (.slice l22.1 l22.2.1 l22.2.2,r21.2.2)) else none)
theorem C7 (k:Nat) (x0:Option Addr) (σ:Aa):Bq k x0 σ=Gk k x0 σ:=by
 cases k with
 | zero=>simp only[Bq,Ab]; rfl
 | succ k=>rw[JW,Ia,Gk]; simp only[CZ,Qy,Mi,Ph,AY,AP,Bb,AZ,Ba,Bd,Bc,AV,Be,Ao,A7,Bf,Ag,Ar,Aq,Ak]
noncomputable def FK (k n:Nat) (i0:Int) (i1:Int) (p2:Option Addr) (c3:Nat) (c4:Nat) (i5:Int) (x7:Option Addr × Nat × Nat) (x27:Int) (σ:Aa):Option Ay:=match n with
 | 0=>none
 | n+1=>(fI i0 fun i0=>fI i1 fun i1=>fP p2 fun p2=>fN c3 fun c3=>fN c4 fun c4=>fI i5 fun i5=>fS x7 fun x7=>fI x27 fun x27=>fL σ fun σ=>bif decide (x27<i5) then (if 0≤x27∧x27<(c3:Nat) then p2.bind fun a9=>(Ai .i64 σ a9.block (a9.off+x27.toNat*2)).bind fun n10=>(Ai .i64 σ a9.block (a9.off+x27.toNat*2+1)).bind fun n11=>CC σ (.cells [.int .i64 (0:Int),.int .i64 (0:Int)] 51 true) fun h12 s13=>T8 s13 h12 0 [.int .i64 n10,.int .i64 n11] fun s14=>(Ai .i64 s14 h12 (0+0)).bind fun n15=>(bif decide ((Ac (i0-n15))>(0:Int)) then ((Ai .i64 s14 h12 (0+1)).bind fun n16=>VG s14 h12 (0+0) (.int .i64 i0) fun s17=>VG s17 h12 (0+1) (.int .i64 (Ac (n16-(Ac (i0-n15))))) fun s18=>some (.normal,[],s18)) else (some (.normal,[],s14)):Option Ay).bind fun r19=>if r19.1 = .normal then ((Ai .i64 r19.2.2 h12 (0+1)).bind fun n20=>(bif decide (n20≥i1) then ((Ai .i64 r19.2.2 h12 0).bind fun n21=>(Ai .i64 r19.2.2 h12 (0+1)).bind fun n22=>CC r19.2.2 (.cells [.int .i64 n21,.int .i64 n22] 51 true) fun h23 s24=>(Bv P 51 (x7.1,x7.2.1,x7.2.2) (some ⟨h23,0,none⟩,1,1) s24).bind fun r25=>fR r25 fun r25=>some (.normal,[.slice r25.1.1 r25.1.2.1 r25.1.2.2],r25.2)) else (some (.normal,[.slice x7.1 x7.2.1 x7.2.2],r19.2.2)):Option Ay).bind fun r26=>if r26.1 = .normal then (Zs r26.2.1 fun l27=>FK k n i0 i1 p2 c3 c4 i5 (l27.1,l27.2.1,l27.2.2) (Ac (x27+(1:Int))) r26.2.2) else none) else none else none) else (some (.exit 2,[.slice x7.1 x7.2.1 x7.2.2],σ)))
termination_by structural n
theorem Kk (k n:Nat) (i0:Int) (i1:Int) (p2:Option Addr) (c3:Nat) (c4:Nat) (i5:Int) (x7:Option Addr × Nat × Nat) (x27:Int) (σ:Aa):BJ k n i0 i1 p2 c3 c4 i5 x7 x27 σ=FK k n i0 i1 p2 c3 c4 i5 x7 x27 σ:=by
 induction n generalizing i0 i1 p2 c3 c4 i5 x7 x27 σ with
 | zero=>simp only[BJ,Ab]; rfl
 | succ n ih=>rw[G4,FD,FK]; simp only[Nx,C7,ih,AY,AP,Bb,AZ,Ba,Bd,Bc,AV,Be,Ao,A7,Bf,Ag,Ar,Aq,Ak]
noncomputable def FJ (k n:Nat) (p0:Option Addr) (i1:Int) (i2:Int) (p3:Option Addr) (c4:Nat) (c5:Nat) (i6:Int) (x7:Option Addr × Nat × Nat) (x16:Int) (σ:Aa):Option Ay:=match n with
 | 0=>none
 | n+1=>(fP p0 fun p0=>fI i1 fun i1=>fI i2 fun i2=>fP p3 fun p3=>fN c4 fun c4=>fN c5 fun c5=>fI i6 fun i6=>fS x7 fun x7=>fI x16 fun x16=>fL σ fun σ=>bif decide (x16<i6) then (if 0≤x16∧x16<(c4:Nat) then p3.bind fun a3=>(Ai .i64 σ a3.block (a3.off+x16.toNat*1)).bind fun n4=>p0.bind fun a5=>(Js σ a5.block (a5.off+0)).bind fun p6=>(Oo k p6 n4 σ).bind fun r7=>(H7 r7.1).bind fun l8=>(FK k k i1 i2 l8.1 l8.2.1 l8.2.2 ((l8.2.1:Nat):Int) (x7.1,x7.2.1,x7.2.2) (0:Int) r7.2).bind fun r28=>if r28.1 = .exit 2 then (Zs r28.2.1 fun l29=>FJ k n p0 i1 i2 p3 c4 c5 i6 (l29.1,l29.2.1,l29.2.2) (Ac (x16+(1:Int))) r28.2.2) else none else none) else (some (.exit 0,[.slice x7.1 x7.2.1 x7.2.2],σ)))
termination_by structural n
theorem PV (k n:Nat) (p0:Option Addr) (i1:Int) (i2:Int) (p3:Option Addr) (c4:Nat) (c5:Nat) (i6:Int) (x7:Option Addr × Nat × Nat) (x16:Int) (σ:Aa):BI k n p0 i1 i2 p3 c4 c5 i6 x7 x16 σ=FJ k n p0 i1 i2 p3 c4 c5 i6 x7 x16 σ:=by
 induction n generalizing p0 i1 i2 p3 c4 c5 i6 x7 x16 σ with
 | zero=>simp only[BI,Ab]; rfl
 | succ n ih=>rw[G3,FC,FJ]; simp only[Nx,C7,Kk,ih,AY,AP,Bb,AZ,Ba,Bd,Bc,AV,Be,Ao,A7,Bf,Ag,Ar,Aq,Ak]
noncomputable def E7 (k:Nat) (x0:Option Addr) (x1:Int) (x2:Int) (σ:Aa):Option (Value × Aa):=match k with
 | 0=>none
 | k+1=>(fP x0 fun x0=>fI x1 fun x1=>fI x2 fun x2=>fL σ fun σ=>(Gk k x0 σ).bind fun r1=>(H7 r1.1).bind fun l2=>(FJ k k x0 x1 x2 l2.1 l2.2.1 l2.2.2 ((l2.2.1:Nat):Int) (none,0,0) (0:Int) r1.2).bind fun r30=>if r30.1 = .exit 0 then (Zs r30.2.1 fun l31=>some (.slice l31.1 l31.2.1 l31.2.2,r30.2.2)) else none)
theorem I5 (k:Nat) (x0:Option Addr) (x1:Int) (x2:Int) (σ:Aa):AM k x0 x1 x2 σ=E7 k x0 x1 x2 σ:=by
 cases k with
 | zero=>simp only[AM,Ab]; rfl
 | succ k=>rw[KZ,Je,E7]; simp only[Nx,C7,Kk,PV,AY,AP,Bb,AZ,Ba,Bd,Bc,AV,Be,Ao,A7,Bf,Ag,Ar,Aq,Ak]
noncomputable def Lu (k:Nat) (x1:Option Addr) (x2:Int) (σ:Aa):Option (Value × Aa):=match k with
 | 0=>none
 | k+1=>(fP x1 fun x1=>fI x2 fun x2=>fL σ fun σ=>CC σ (.cells [] 150 true) fun h1 s2=>(E7 k x1 (0:Int) x2 s2).bind fun r3=>(H7 r3.1).bind fun l4=>(Ff k x1 (l4.1,l4.2.1,l4.2.2) r3.2).bind fun r5=>WG r5.1 fun n6 b7=>fI n6 fun y8=>fB b7 fun y9=>some (.tuple #[.int .i64 y8,.bool y9],r5.2))
theorem Uu (k:Nat) (x1:Option Addr) (x2:Int) (σ:Aa):CV k x1 x2 σ=Lu k x1 x2 σ:=by
 cases k with
 | zero=>simp only[CV,Ab]; rfl
 | succ k=>rw[Nm,Li,Lu]; simp only[HZ,I5,AY,AP,Bb,AZ,Ba,Bd,Bc,AV,Be,Ao,A7,Bf,Ag,Ar,Aq,Ak]
theorem TQ (k:Nat) (x1:Option Addr) (x2:Int) (σ:Aa):fn P (XK Kn.b) H k 199 [.agg #[],.pointer x1,.int .i64 x2] σ=CV k x1 x2 σ:=by
 simp only[CV,Ab]
noncomputable def JQ (k:Nat) (x0_0:Int) (x0_1:Int) (x1_0:Int) (x1_1:Int) (σ:Aa):Option (Value × Aa):=match k with
 | 0=>none
 | k+1=>(fI x0_0 fun x0_0=>fI x0_1 fun x0_1=>fI x1_0 fun x1_0=>fI x1_1 fun x1_1=>fL σ fun σ=>CC σ (.cells [.int .i64 x0_0,.int .i64 x0_1] 51 true) fun h1 s2=>CC s2 (.cells [.int .i64 x1_0,.int .i64 x1_1] 51 true) fun h3 s4=>(Ai .i64 s4 h1 (0+1)).bind fun n5=>(Ai .i64 s4 h3 (0+1)).bind fun n6=>fI (Ac (n5-n6)) fun y7=>some (.int .i64 y7,s4))
theorem SN (k:Nat) (x0_0:Int) (x0_1:Int) (x1_0:Int) (x1_1:Int) (σ:Aa):CU k x0_0 x0_1 x1_0 x1_1 σ=JQ k x0_0 x0_1 x1_0 x1_1 σ:=by
 cases k with
 | zero=>simp only[CU,Ab]; rfl
 | succ k=>rw[L0,JE,JQ]; simp only[AY,AP,Bb,AZ,Ba,Bd,Bc,AV,Be,Ao,A7,Bf,Ag,Ar,Aq,Ak]
theorem RY (k:Nat) (x0_0:Int) (x0_1:Int) (x1_0:Int) (x1_1:Int) (σ:Aa):fn P (XK Kn.b) H k 206 [.agg #[.int .i64 x0_0,.int .i64 x0_1],.agg #[.int .i64 x1_0,.int .i64 x1_1]] σ=CU k x0_0 x0_1 x1_0 x1_1 σ:=by
 simp only[CU,Ab]
noncomputable def N3 (k:Nat) (n:FuncId) (l:List Value) (σ:Aa):Option (Value × Aa):=
 if n=206 then (match l with
  | [.agg ⟨[.int .i64 y1,.int .i64 y2]⟩,.agg ⟨[.int .i64 y3,.int .i64 y4]⟩]=>JQ k y1 y2 y3 y4 σ
  | l=>fn P (XK Kn.b) H k 206 l σ) else
 fn P (XK Kn.b) H k n l σ
theorem Zy (k:Nat) (n:FuncId) (l:List Value) (σ:Aa):fn P (XK Kn.b) H k n l σ=N3 k n l σ:=by
 unfold N3
 split
 ·rename_i hn; subst hn
  split
  ·exact (RY k _ _ _ _ σ).trans (SN k _ _ _ _ σ)
  ·rfl
 rfl
noncomputable def QB (k:Nat) (f:Value) (args:List Value) (σ:Aa):Option (Value × Aa):=match f with
 | .func (.func n) first cap=>N3 k n (first.toList++args++cap.toList) σ
 | .func (.method nm) first _=>(match first.toList++args with
   | .iface t v::rest=>(Tk P t nm).bind fun n=>N3 k n (v::rest) σ
   | _=>none)
 | _=>none
theorem Pn (k:Nat) (f:Value) (args:List Value) (σ:Aa):Da k f args σ=QB k f args σ:=by
 simp only[Da,Ab]
 unfold O2 QB
 simp only[Zy]
 rfl
noncomputable def C4 (k n:Nat) (p0:Option Addr) (c1:Nat) (c2:Nat) (i3:Int) (v4:Value) (x9:Int) (σ:Aa):Option Ay:=match n with
 | 0=>none
 | n+1=>(fP p0 fun p0=>fN c1 fun c1=>fN c2 fun c2=>fI i3 fun i3=>fI x9 fun x9=>fL σ fun σ=>(bif decide (x9>i3) then if 0≤x9∧x9<(c1:Nat) then p0.bind fun a1=>(Ai .i64 σ a1.block (a1.off+x9.toNat*2)).bind fun n2=>(Ai .i64 σ a1.block (a1.off+x9.toNat*2+1)).bind fun n3=>if 0≤(Ac (x9-(1:Int)))∧(Ac (x9-(1:Int)))<(c1:Nat) then p0.bind fun a4=>(Ai .i64 σ a4.block (a4.off+(Ac (x9-(1:Int))).toNat*2)).bind fun n5=>(Ai .i64 σ a4.block (a4.off+(Ac (x9-(1:Int))).toNat*2+1)).bind fun n6=>(QB k v4 [.agg #[.int .i64 n2,.int .i64 n3],.agg #[.int .i64 n5,.int .i64 n6]] σ).bind fun r7=>(BA .i64 r7.1).bind fun n8=>some (decide (n8<(0:Int)),r7.2) else none else none else some (false,σ)).bind fun r9=>bif r9.1 then (if 0≤(Ac (x9-(1:Int)))∧(Ac (x9-(1:Int)))<(c1:Nat) then p0.bind fun a10=>(Ai .i64 r9.2 a10.block (a10.off+(Ac (x9-(1:Int))).toNat*2)).bind fun n11=>(Ai .i64 r9.2 a10.block (a10.off+(Ac (x9-(1:Int))).toNat*2+1)).bind fun n12=>if 0≤x9∧x9<(c1:Nat) then p0.bind fun a13=>(Ai .i64 r9.2 a13.block (a13.off+x9.toNat*2)).bind fun n14=>(Ai .i64 r9.2 a13.block (a13.off+x9.toNat*2+1)).bind fun n15=>if 0≤x9∧x9<(c1:Nat) then p0.bind fun a16=>T8 r9.2 a16.block (a16.off+x9.toNat*2) [.int .i64 n11,.int .i64 n12] fun s17=>if 0≤(Ac (x9-(1:Int)))∧(Ac (x9-(1:Int)))<(c1:Nat) then p0.bind fun a18=>T8 s17 a18.block (a18.off+(Ac (x9-(1:Int))).toNat*2) [.int .i64 n14,.int .i64 n15] fun s19=>C4 k n p0 c1 c2 i3 v4 (Ac (x9-(1:Int))) s19 else none else none else none else none) else (some (.exit 2,[],r9.2)))
termination_by structural n
theorem FA (k n:Nat) (p0:Option Addr) (c1:Nat) (c2:Nat) (i3:Int) (v4:Value) (x9:Int) (σ:Aa):AH k n p0 c1 c2 i3 v4 x9 σ=C4 k n p0 c1 c2 i3 v4 x9 σ:=by
 induction n generalizing p0 c1 c2 i3 v4 x9 σ with
 | zero=>simp only[AH,Ab]; rfl
 | succ n ih=>rw[Dh,C1,C4]; simp only[Pn,ih,AY,AP,Bb,AZ,Ba,Bd,Bc,AV,Be,Ao,A7,Bf,Ag,Ar,Aq,Ak]
noncomputable def C3 (k n:Nat) (p0:Option Addr) (c1:Nat) (c2:Nat) (i3:Int) (i4:Int) (v5:Value) (x8:Int) (σ:Aa):Option Ay:=match n with
 | 0=>none
 | n+1=>(fP p0 fun p0=>fN c1 fun c1=>fN c2 fun c2=>fI i3 fun i3=>fI i4 fun i4=>fI x8 fun x8=>fL σ fun σ=>bif decide (x8<i4) then ((C4 k k p0 c1 c2 i3 v5 x8 σ).bind fun r20=>if r20.1 = .exit 2 then (C3 k n p0 c1 c2 i3 i4 v5 (Ac (x8+(1:Int))) r20.2.2) else none) else (some (.exit 0,[],σ)))
termination_by structural n
theorem J6 (k n:Nat) (p0:Option Addr) (c1:Nat) (c2:Nat) (i3:Int) (i4:Int) (v5:Value) (x8:Int) (σ:Aa):AG k n p0 c1 c2 i3 i4 v5 x8 σ=C3 k n p0 c1 c2 i3 i4 v5 x8 σ:=by
 induction n generalizing p0 c1 c2 i3 i4 v5 x8 σ with
 | zero=>simp only[AG,Ab]; rfl
 | succ n ih=>rw[Dg,C0,C3]; simp only[Pn,FA,ih,AY,AP,Bb,AZ,Ba,Bd,Bc,AV,Be,Ao,A7,Bf,Ag,Ar,Aq,Ak]
noncomputable def CS (k:Nat) (x0:Option Addr × Nat × Nat) (x1:Int) (x2:Int) (x3:Value) (σ:Aa):Option (Value × Aa):=match k with
 | 0=>none
 | k+1=>(fS x0 fun x0=>fI x1 fun x1=>fI x2 fun x2=>fL σ fun σ=>(C3 k k x0.1 x0.2.1 x0.2.2 x1 x2 x3 (Ac (x1+(1:Int))) σ).bind fun r21=>if r21.1 = .exit 0 then (some (.tuple #[],r21.2.2)) else none)
theorem CM (k:Nat) (x0:Option Addr × Nat × Nat) (x1:Int) (x2:Int) (x3:Value) (σ:Aa):A9 k x0 x1 x2 x3 σ=CS k x0 x1 x2 x3 σ:=by
 cases k with
 | zero=>simp only[A9,Ab]; rfl
 | succ k=>rw[DV,CP,CS]; simp only[Pn,FA,J6,AY,AP,Bb,AZ,Ba,Bd,Bc,AV,Be,Ao,A7,Bf,Ag,Ar,Aq,Ak]
noncomputable def F3 (k:Nat) (x0:Option Addr × Nat × Nat) (x1:Int) (x2:Int) (x3:Int) (x4:Value) (σ:Aa):Option (Value × Aa):=Ax k x0 x1 x2 x3 x4 σ
theorem DE (k:Nat) (x0:Option Addr × Nat × Nat) (x1:Int) (x2:Int) (x3:Int) (x4:Value) (σ:Aa):Ax k x0 x1 x2 x3 x4 σ=F3 k x0 x1 x2 x3 x4 σ:=rfl
noncomputable def DB (k n:Nat) (p0:Option Addr) (c1:Nat) (c2:Nat) (i3:Int) (v4:Value) (x7:Int) (x8:Int) (σ:Aa):Option Ay:=match n with
 | 0=>none
 | n+1=>(fP p0 fun p0=>fN c1 fun c1=>fN c2 fun c2=>fI i3 fun i3=>fI x7 fun x7=>fI x8 fun x8=>fL σ fun σ=>bif decide (x8≤i3) then ((CS k (p0,c1,c2) x7 x8 (v4) σ).bind fun r1=>Uk r1.1 (DB k n p0 c1 c2 i3 v4 x8 (Ac (x8+(20:Int))) r1.2)) else (some (.exit 0,[.int .i64 x7],σ)))
termination_by structural n
theorem EV (k n:Nat) (p0:Option Addr) (c1:Nat) (c2:Nat) (i3:Int) (v4:Value) (x7:Int) (x8:Int) (σ:Aa):AQ k n p0 c1 c2 i3 v4 x7 x8 σ=DB k n p0 c1 c2 i3 v4 x7 x8 σ:=by
 induction n generalizing p0 c1 c2 i3 v4 x7 x8 σ with
 | zero=>simp only[AQ,Ab]; rfl
 | succ n ih=>rw[EC,D9,DB]; simp only[CM,DE,ih,AY,AP,Bb,AZ,Ba,Bd,Bc,AV,Be,Ao,A7,Bf,Ag,Ar,Aq,Ak]
noncomputable def DD (k n:Nat) (p0:Option Addr) (c1:Nat) (c2:Nat) (i3:Int) (v4:Value) (i5:Int) (x7:Int) (x8:Int) (σ:Aa):Option Ay:=match n with
 | 0=>none
 | n+1=>(fP p0 fun p0=>fN c1 fun c1=>fN c2 fun c2=>fI i3 fun i3=>fI i5 fun i5=>fI x7 fun x7=>fI x8 fun x8=>fL σ fun σ=>bif decide (x8≤i3) then ((F3 k (p0,c1,c2) x7 (Ac (x7+i5)) x8 (v4) σ).bind fun r5=>Uk r5.1 (DD k n p0 c1 c2 i3 v4 i5 x8 (Ac (x8+(Ac ((2:Int)*i5)))) r5.2)) else (some (.exit 4,[.int .i64 x7],σ)))
termination_by structural n
theorem Hl (k n:Nat) (p0:Option Addr) (c1:Nat) (c2:Nat) (i3:Int) (v4:Value) (i5:Int) (x7:Int) (x8:Int) (σ:Aa):Bn k n p0 c1 c2 i3 v4 i5 x7 x8 σ=DD k n p0 c1 c2 i3 v4 i5 x7 x8 σ:=by
 induction n generalizing p0 c1 c2 i3 v4 i5 x7 x8 σ with
 | zero=>simp only[Bn,Ab]; rfl
 | succ n ih=>rw[GB,Fi,DD]; simp only[CM,DE,EV,ih,AY,AP,Bb,AZ,Ba,Bd,Bc,AV,Be,Ao,A7,Bf,Ag,Ar,Aq,Ak]
noncomputable def DC (k n:Nat) (p0:Option Addr) (c1:Nat) (c2:Nat) (i3:Int) (v4:Value) (x6:Int) (σ:Aa):Option Ay:=match n with
 | 0=>none
 | n+1=>(fP p0 fun p0=>fN c1 fun c1=>fN c2 fun c2=>fI i3 fun i3=>fI x6 fun x6=>fL σ fun σ=>bif decide (x6<i3) then ((DD k k p0 c1 c2 i3 v4 x6 (0:Int) (Ac ((2:Int)*x6)) σ).bind fun r6=>if r6.1 = .exit 4 then (SH r6.2.1 fun n7=>(bif decide ((Ac (n7+x6))<i3) then ((F3 k (p0,c1,c2) n7 (Ac (n7+x6)) i3 (v4) r6.2.2).bind fun r8=>Uk r8.1 (some (.normal,[],r8.2))) else (some (.normal,[],r6.2.2)):Option Ay).bind fun r9=>if r9.1 = .normal then (DC k n p0 c1 c2 i3 v4 (Ac (x6*(2:Int))) r9.2.2) else none) else none) else (some (.exit 2,[],σ)))
termination_by structural n
theorem Mx (k n:Nat) (p0:Option Addr) (c1:Nat) (c2:Nat) (i3:Int) (v4:Value) (x6:Int) (σ:Aa):AR k n p0 c1 c2 i3 v4 x6 σ=DC k n p0 c1 c2 i3 v4 x6 σ:=by
 induction n generalizing p0 c1 c2 i3 v4 x6 σ with
 | zero=>simp only[AR,Ab]; rfl
 | succ n ih=>rw[ED,DA,DC]; simp only[CM,DE,EV,Hl,ih,AY,AP,Bb,AZ,Ba,Bd,Bc,AV,Be,Ao,A7,Bf,Ag,Ar,Aq,Ak]
noncomputable def Gc (k:Nat) (x0:Option Addr × Nat × Nat) (x1:Int) (x2:Value) (σ:Aa):Option (Value × Aa):=match k with
 | 0=>none
 | k+1=>(fS x0 fun x0=>fI x1 fun x1=>fL σ fun σ=>(DB k k x0.1 x0.2.1 x0.2.2 x1 x2 (0:Int) (20:Int) σ).bind fun r2=>if r2.1 = .exit 0 then (SH r2.2.1 fun n3=>(CS k (x0.1,x0.2.1,x0.2.2) n3 x1 (x2) r2.2.2).bind fun r4=>Uk r4.1 ((DC k k x0.1 x0.2.1 x0.2.2 x1 x2 (20:Int) r4.2).bind fun r10=>if r10.1 = .exit 2 then (some (.tuple #[],r10.2.2)) else none)) else none)
theorem NC (k:Nat) (x0:Option Addr × Nat × Nat) (x1:Int) (x2:Value) (σ:Aa):Cn k x0 x1 x2 σ=Gc k x0 x1 x2 σ:=by
 cases k with
 | zero=>simp only[Cn,Ab]; rfl
 | succ k=>rw[Fj,Ex,Gc]; simp only[CM,DE,EV,Hl,Mx,AY,AP,Bb,AZ,Ba,Bd,Bc,AV,Be,Ao,A7,Bf,Ag,Ar,Aq,Ak]
noncomputable def FB (k:Nat) (x0:Option Addr × Nat × Nat) (x1:Value) (σ:Aa):Option (Value × Aa):=match k with
 | 0=>none
 | k+1=>(fS x0 fun x0=>fL σ fun σ=>(Gc k (x0.1,x0.2.1,x0.2.2) ((x0.2.1:Nat):Int) (x1) σ).bind fun r1=>Uk r1.1 (some (.tuple #[],r1.2)))
theorem NA (k:Nat) (x0:Option Addr × Nat × Nat) (x1:Value) (σ:Aa):Bh k x0 x1 σ=FB k x0 x1 σ:=by
 cases k with
 | zero=>simp only[Bh,Ab]; rfl
 | succ k=>rw[EU,Ek,FB]; simp only[NC,AY,AP,Bb,AZ,Ba,Bd,Bc,AV,Be,Ao,A7,Bf,Ag,Ar,Aq,Ak]
noncomputable def Mo (k:Nat) (x1:Option Addr) (x2:Int) (σ:Aa):Option (Value × Aa):=match k with
 | 0=>none
 | k+1=>(fP x1 fun x1=>fI x2 fun x2=>fL σ fun σ=>CC σ (.cells [] 151 true) fun h1 s2=>(E7 k x1 (0:Int) x2 s2).bind fun r3=>(H7 r3.1).bind fun l4=>(FB k (l4.1,l4.2.1,l4.2.2) (.func (.func 206) #[] #[]) r3.2).bind fun r5=>Uk r5.1 ((Ff k x1 (l4.1,l4.2.1,l4.2.2) r5.2).bind fun r6=>WG r6.1 fun n7 b8=>fI n7 fun y9=>fB b8 fun y10=>some (.tuple #[.int .i64 y9,.bool y10],r6.2)))
theorem V2 (k:Nat) (x1:Option Addr) (x2:Int) (σ:Aa):Dv k x1 x2 σ=Mo k x1 x2 σ:=by
 cases k with
 | zero=>simp only[Dv,Ab]; rfl
 | succ k=>rw[ND,LV,Mo]; simp only[HZ,I5,NA,AY,AP,Bb,AZ,Ba,Bd,Bc,AV,Be,Ao,A7,Bf,Ag,Ar,Aq,Ak]
theorem Us (k:Nat) (x1:Option Addr) (x2:Int) (σ:Aa):fn P (XK Kn.b) H k 204 [.agg #[],.pointer x1,.int .i64 x2] σ=Dv k x1 x2 σ:=by
 simp only[Dv,Ab]
noncomputable def Mq (k:Nat) (x1:Option Addr) (x2:Int) (σ:Aa):Option (Value × Aa):=match k with
 | 0=>none
 | k+1=>(fP x1 fun x1=>fI x2 fun x2=>fL σ fun σ=>CC σ (.cells [] 152 true) fun h1 s2=>x1.bind fun a3=>(Ai .i64 s2 a3.block (a3.off+3+0)).bind fun n4=>(E7 k x1 n4 x2 s2).bind fun r5=>(H7 r5.1).bind fun l6=>(E7 k x1 (0:Int) x2 r5.2).bind fun r7=>(H7 r7.1).bind fun l8=>(Bv P 51 (l6.1,l6.2.1,l6.2.2) (l8.1,l8.2.1,l8.2.2) r7.2).bind fun r9=>fR r9 fun r9=>(Ff k x1 (r9.1.1,r9.1.2.1,r9.1.2.2) r9.2).bind fun r10=>WG r10.1 fun n11 b12=>(bif b12 then (x1.bind fun a13=>VG r10.2 a13.block (a13.off+3+0) (.int .i64 (Ac (n11+x2))) fun s14=>some (.normal,[],s14)) else (some (.normal,[],r10.2)):Option Ay).bind fun r15=>if r15.1 = .normal then (fI n11 fun y16=>fB b12 fun y17=>some (.tuple #[.int .i64 y16,.bool y17],r15.2.2)) else none)
theorem V5 (k:Nat) (x1:Option Addr) (x2:Int) (σ:Aa):Dx k x1 x2 σ=Mq k x1 x2 σ:=by
 cases k with
 | zero=>simp only[Dx,Ab]; rfl
 | succ k=>rw[NG,LX,Mq]; simp only[HZ,I5,AY,AP,Bb,AZ,Ba,Bd,Bc,AV,Be,Ao,A7,Bf,Ag,Ar,Aq,Ak]
theorem Uw (k:Nat) (x1:Option Addr) (x2:Int) (σ:Aa):fn P (XK Kn.b) H k 212 [.agg #[],.pointer x1,.int .i64 x2] σ=Dx k x1 x2 σ:=by
 simp only[Dx,Ab]
noncomputable def KS (k:Nat) (x0:Option Addr) (x1:Int) (σ:Aa):Option (Value × Aa):=match k with
 | 0=>none
 | k+1=>(fP x0 fun x0=>fI x1 fun x1=>fL σ fun σ=>x0.bind fun a1=>(Ai .i64 σ a1.block (a1.off+1)).bind fun n2=>x0.bind fun a3=>(Ai .i64 σ a3.block (a3.off+0)).bind fun n4=>fB (decide ((Ac (n2-n4))≥x1)) fun y5=>some (.bool y5,σ))
theorem QU (k:Nat) (x0:Option Addr) (x1:Int) (σ:Aa):DI k x0 x1 σ=KS k x0 x1 σ:=by
 cases k with
 | zero=>simp only[DI,Ab]; rfl
 | succ k=>rw[Pu,NU,KS]; simp only[AY,AP,Bb,AZ,Ba,Bd,Bc,AV,Be,Ao,A7,Bf,Ag,Ar,Aq,Ak]
noncomputable def HQ (k:Nat) (x0:Option Addr) (x1:Int) (σ:Aa):Option (Value × Aa):=match k with
 | 0=>none
 | k+1=>(fP x0 fun x0=>fI x1 fun x1=>fL σ fun σ=>x0.bind fun a1=>(Ai .i64 σ a1.block (a1.off+0)).bind fun n2=>x0.bind fun a3=>VG σ a3.block (a3.off+0) (.int .i64 (Ac (n2+x1))) fun s4=>x0.bind fun a5=>(Ai .i64 s4 a5.block (a5.off+0)).bind fun n6=>fI (Ac (n6-x1)) fun y7=>some (.int .i64 y7,s4))
theorem PX (k:Nat) (x0:Option Addr) (x1:Int) (σ:Aa):De k x0 x1 σ=HQ k x0 x1 σ:=by
 cases k with
 | zero=>simp only[De,Ab]; rfl
 | succ k=>rw[OH,MV,HQ]; simp only[AY,AP,Bb,AZ,Ba,Bd,Bc,AV,Be,Ao,A7,Bf,Ag,Ar,Aq,Ak]
noncomputable def Gl (k:Nat) (x0:Option Addr) (x1:Option Addr) (x2:Int) (σ:Aa):Option (Value × Aa):=match k with
 | 0=>none
 | k+1=>(fP x0 fun x0=>fP x1 fun x1=>fI x2 fun x2=>fL σ fun σ=>(KS k x1 x2 σ).bind fun r1=>(DF r1.1).bind fun b2=>(bif !b2 then ((Fe k x0 r1.2).bind fun r3=>(Zq r3.1).bind fun q4=>if q4.length=2 then q4.head?.bind fun v5=>cG v5 fun n6 n7=>q4.tail.head?.bind fun v8=>(DF v8).bind fun b9=>CC r3.2 (.cells [.int .i64 (0:Int),.int .i64 (0:Int)] 120 true) fun h10 s11=>T8 s11 h10 0 [.int .i64 n6,.int .i64 n7] fun s12=>bif !b9 then (some (.ret,[.int .i64 (0:Int),.bool false],s12)) else ((Ai .i64 s12 h10 0).bind fun n13=>(Ai .i64 s12 h10 (0+1)).bind fun n14=>x1.bind fun a15=>T8 s12 a15.block a15.off [.int .i64 n13,.int .i64 n14] fun s16=>some (.normal,[],s16)) else none) else (some (.normal,[],r1.2)):Option Ay).bind fun r17=>if r17.1 = .normal then ((HQ k x1 x2 r17.2.2).bind fun r18=>(BA .i64 r18.1).bind fun n19=>fI n19 fun y20=>fB true fun y21=>some (.tuple #[.int .i64 y20,.bool y21],r18.2)) else if r17.1 = .ret then (je r17.2.1 fun n22 b23=>fI n22 fun y24=>fB b23 fun y25=>some (.tuple #[.int .i64 y24,.bool y25],r17.2.2)) else none)
theorem KY (k:Nat) (x0:Option Addr) (x1:Option Addr) (x2:Int) (σ:Aa):B3 k x0 x1 x2 σ=Gl k x0 x1 x2 σ:=by
 cases k with
 | zero=>simp only[B3,Ab]; rfl
 | succ k=>rw[JX,Ib,Gl]; simp only[DG,QU,PX,AY,AP,Bb,AZ,Ba,Bd,Bc,AV,Be,Ao,A7,Bf,Ag,Ar,Aq,Ak]
noncomputable def Mp (k:Nat) (x1:Option Addr) (x2:Int) (σ:Aa):Option (Value × Aa):=match k with
 | 0=>none
 | k+1=>(fP x1 fun x1=>fI x2 fun x2=>fL σ fun σ=>CC σ (.cells [] 153 true) fun h1 s2=>x1.bind fun a3=>(Gl k x1 (some ⟨a3.block,a3.off+3,none⟩) x2 s2).bind fun r4=>WG r4.1 fun n5 b6=>fI n5 fun y7=>fB b6 fun y8=>some (.tuple #[.int .i64 y7,.bool y8],r4.2))
theorem V4 (k:Nat) (x1:Option Addr) (x2:Int) (σ:Aa):Dw k x1 x2 σ=Mp k x1 x2 σ:=by
 cases k with
 | zero=>simp only[Dw,Ab]; rfl
 | succ k=>rw[NF,LW,Mp]; simp only[KY,AY,AP,Bb,AZ,Ba,Bd,Bc,AV,Be,Ao,A7,Bf,Ag,Ar,Aq,Ak]
theorem Ut (k:Nat) (x1:Option Addr) (x2:Int) (σ:Aa):fn P (XK Kn.b) H k 213 [.agg #[],.pointer x1,.int .i64 x2] σ=Dw k x1 x2 σ:=by
 simp only[Dw,Ab]
noncomputable def HS (k n:Nat) (h0:Nat) (c1:Nat) (i2:Int) (x10:Int) (σ:Aa):Option Ay:=match n with
 | 0=>none
 | n+1=>(fN h0 fun h0=>fN c1 fun c1=>fI i2 fun i2=>fI x10 fun x10=>fL σ fun σ=>if (8:Int)=0 then none else bif decide (x10≤(Ac (i2.tdiv (8:Int)))) then (if 0≤x10∧x10<(c1:Nat) then VG σ h0 (0+x10.toNat*1) (.bool true) fun s11=>HS k n h0 c1 i2 (Ac (x10+(1:Int))) s11 else none) else (some (.exit 2,[],σ)))
termination_by structural n
theorem NO (k n:Nat) (h0:Nat) (c1:Nat) (i2:Int) (x10:Int) (σ:Aa):Dl k n h0 c1 i2 x10 σ=HS k n h0 c1 i2 x10 σ:=by
 induction n generalizing h0 c1 i2 x10 σ with
 | zero=>simp only[Dl,Ab]; rfl
 | succ n ih=>rw[IF,HB,HS]; simp only[Gr,HN,Fy,ih,AY,AP,Bb,AZ,Ba,Bd,Bc,AV,Be,Ao,A7,Bf,Ag,Ar,Aq,Ak]
noncomputable def HR (k n:Nat) (p0:Option Addr) (h1:Nat) (c2:Nat) (p3:Option Addr) (c4:Nat) (c5:Nat) (i6:Int) (x20:Int) (σ:Aa):Option Ay:=match n with
 | 0=>none
 | n+1=>(fP p0 fun p0=>fN h1 fun h1=>fN c2 fun c2=>fP p3 fun p3=>fN c4 fun c4=>fN c5 fun c5=>fI i6 fun i6=>fI x20 fun x20=>fL σ fun σ=>bif decide (x20<i6) then (if 0≤x20∧x20<(c4:Nat) then p3.bind fun a7=>(Ai .i64 σ a7.block (a7.off+x20.toNat*1)).bind fun n8=>if (64:Int)=0 then none else if (64:Int)=0 then none else (GV k p0 n8 σ).bind fun r9=>(BA .i64 r9.1).bind fun n10=>if (8:Int)=0 then none else (HS k k h1 c2 (Ac ((Ac ((n8.tmod (64:Int))+n10))-(1:Int))) (Ac ((n8.tmod (64:Int)).tdiv (8:Int))) r9.2).bind fun r12=>if r12.1 = .exit 2 then (HR k n p0 h1 c2 p3 c4 c5 i6 (Ac (x20+(1:Int))) r12.2.2) else none else none) else (some (.exit 0,[],σ)))
termination_by structural n
theorem Ud (k n:Nat) (p0:Option Addr) (h1:Nat) (c2:Nat) (p3:Option Addr) (c4:Nat) (c5:Nat) (i6:Int) (x20:Int) (σ:Aa):Dk k n p0 h1 c2 p3 c4 c5 i6 x20 σ=HR k n p0 h1 c2 p3 c4 c5 i6 x20 σ:=by
 induction n generalizing p0 h1 c2 p3 c4 c5 i6 x20 σ with
 | zero=>simp only[Dk,Ab]; rfl
 | succ n ih=>rw[IE,HA,HR]; simp only[Gr,HN,Fy,NO,ih,AY,AP,Bb,AZ,Ba,Bd,Bc,AV,Be,Ao,A7,Bf,Ag,Ar,Aq,Ak]
noncomputable def N4 (k:Nat) (x0:Option Addr) (x1:Int) (σ:Aa):Option (Value × Aa):=match k with
 | 0=>none
 | k+1=>(fP x0 fun x0=>fI x1 fun x1=>fL σ fun σ=>(KU k x0 x1 σ).bind fun r1=>(DF r1.1).bind fun b2=>bif !b2 then (some (.slice none 0 0,r1.2)) else (if 0≤(8:Int)∧(8:Int)≤(8:Int)∧(8:Int)*(1:Nat)≤2 ^ 40∧(8:Int)≤2 ^ 40 then CC r1.2 (.cells (rep (8:Int).toNat [.bool false]) 4 true) fun h3 s4=>(Iz k x0 x1 s4).bind fun r5=>(H7 r5.1).bind fun l6=>(HR k k x0 h3 ((8:Int).toNat) l6.1 l6.2.1 l6.2.2 ((l6.2.1:Nat):Int) (0:Int) r5.2).bind fun r13=>if r13.1 = .exit 0 then (some (.slice (some ⟨h3,0,none⟩) ((8:Int).toNat) ((8:Int).toNat),r13.2.2)) else none else none))
theorem Jq (k:Nat) (x0:Option Addr) (x1:Int) (σ:Aa):DY k x0 x1 σ=N4 k x0 x1 σ:=by
 cases k with
 | zero=>simp only[DY,Ab]; rfl
 | succ k=>rw[HG,H9,N4]; simp only[Gr,HN,Fy,NO,Ud,AY,AP,Bb,AZ,Ba,Bd,Bc,AV,Be,Ao,A7,Bf,Ag,Ar,Aq,Ak]
noncomputable def FN (k n:Nat) (p0:Option Addr) (c1:Nat) (c2:Nat) (x8:Int) (σ:Aa):Option Ay:=match n with
 | 0=>none
 | n+1=>(fP p0 fun p0=>fN c1 fun c1=>fN c2 fun c2=>fI x8 fun x8=>fL σ fun σ=>(bif decide (x8<((c1:Nat):Int)) then if 0≤x8∧x8<(c1:Nat) then p0.bind fun a11=>(WS σ a11.block (a11.off+x8.toNat*1)).bind fun b12=>some (!b12,σ) else none else some (false,σ)).bind fun r13=>bif r13.1 then (FN k n p0 c1 c2 (Ac (x8+(1:Int))) r13.2) else (some (.exit 4,[.int .i64 x8],r13.2)))
termination_by structural n
theorem GY (k n:Nat) (p0:Option Addr) (c1:Nat) (c2:Nat) (x8:Int) (σ:Aa):Ch k n p0 c1 c2 x8 σ=FN k n p0 c1 c2 x8 σ:=by
 induction n generalizing p0 c1 c2 x8 σ with
 | zero=>simp only[Ch,Ab]; rfl
 | succ n ih=>rw[G6,FF,FN]; simp only[Jq,DG,C7,ih,AY,AP,Bb,AZ,Ba,Bd,Bc,AV,Be,Ao,A7,Bf,Ag,Ar,Aq,Ak]
noncomputable def FM (k n:Nat) (p0:Option Addr) (h1:Nat) (i2:Int) (p3:Option Addr) (c4:Nat) (c5:Nat) (x7:Int) (σ:Aa):Option Ay:=match n with
 | 0=>none
 | n+1=>(fP p0 fun p0=>fN h1 fun h1=>fI i2 fun i2=>fP p3 fun p3=>fN c4 fun c4=>fN c5 fun c5=>fI x7 fun x7=>fL σ fun σ=>bif decide (x7<((c4:Nat):Int)) then ((FN k k p3 c4 c5 x7 σ).bind fun r14=>if r14.1 = .exit 4 then (SH r14.2.1 fun n15=>(bif decide (n15>x7) then p0.bind fun a16=>(Ai .i64 r14.2.2 a16.block (a16.off+3+1)).bind fun n17=>some (decide ((Ac ((Ac (i2*(64:Int)))+(Ac (x7*(8:Int)))))≥n17),r14.2.2) else some (false,r14.2.2)).bind fun r18=>bif r18.1 then (T8 r18.2 h1 0 [.int .i64 (Ac ((Ac (i2*(64:Int)))+(Ac (x7*(8:Int))))),.int .i64 (Ac ((Ac (i2*(64:Int)))+(Ac (n15*(8:Int)))))] fun s19=>some (.ret,[.bool true],s19)) else (FM k n p0 h1 i2 p3 c4 c5 (Ac ((if n15>x7 then n15 else x7)+(1:Int))) r18.2)) else none) else (some (.exit 2,[],σ)))
termination_by structural n
theorem Kl (k n:Nat) (p0:Option Addr) (h1:Nat) (i2:Int) (p3:Option Addr) (c4:Nat) (c5:Nat) (x7:Int) (σ:Aa):Cg k n p0 h1 i2 p3 c4 c5 x7 σ=FM k n p0 h1 i2 p3 c4 c5 x7 σ:=by
 induction n generalizing p0 h1 i2 p3 c4 c5 x7 σ with
 | zero=>simp only[Cg,Ab]; rfl
 | succ n ih=>rw[J2,Hu,FM]; simp only[Jq,DG,C7,GY,ih,AY,AP,Bb,AZ,Ba,Bd,Bc,AV,Be,Ao,A7,Bf,Ag,Ar,Aq,Ak]
noncomputable def FL (k n:Nat) (p0:Option Addr) (h1:Nat) (p2:Option Addr) (c3:Nat) (c4:Nat) (i5:Int) (x13:Int) (σ:Aa):Option Ay:=match n with
 | 0=>none
 | n+1=>(fP p0 fun p0=>fN h1 fun h1=>fP p2 fun p2=>fN c3 fun c3=>fN c4 fun c4=>fI i5 fun i5=>fI x13 fun x13=>fL σ fun σ=>bif decide (x13<i5) then (if 0≤x13∧x13<(c3:Nat) then p2.bind fun a5=>(Ai .i64 σ a5.block (a5.off+x13.toNat*1)).bind fun n6=>p0.bind fun a7=>(Js σ a7.block (a7.off+0)).bind fun p8=>(N4 k p8 n6 σ).bind fun r9=>(H7 r9.1).bind fun l10=>(FM k k p0 h1 n6 l10.1 l10.2.1 l10.2.2 (0:Int) r9.2).bind fun r20=>if r20.1 = .exit 2 then (FL k n p0 h1 p2 c3 c4 i5 (Ac (x13+(1:Int))) r20.2.2) else if r20.1 = .ret then (pq r20.2.1 fun b21=>some (.ret,[.bool b21],r20.2.2)) else none else none) else (some (.exit 0,[],σ)))
termination_by structural n
theorem PW (k n:Nat) (p0:Option Addr) (h1:Nat) (p2:Option Addr) (c3:Nat) (c4:Nat) (i5:Int) (x13:Int) (σ:Aa):BL k n p0 h1 p2 c3 c4 i5 x13 σ=FL k n p0 h1 p2 c3 c4 i5 x13 σ:=by
 induction n generalizing p0 h1 p2 c3 c4 i5 x13 σ with
 | zero=>simp only[BL,Ab]; rfl
 | succ n ih=>rw[G5,FE,FL]; simp only[Jq,DG,C7,GY,Kl,ih,AY,AP,Bb,AZ,Ba,Bd,Bc,AV,Be,Ao,A7,Bf,Ag,Ar,Aq,Ak]
noncomputable def Jw (k:Nat) (x0:Option Addr) (σ:Aa):Option (Value × Aa):=match k with
 | 0=>none
 | k+1=>(fP x0 fun x0=>fL σ fun σ=>CC σ (.cells [.int .i64 (0:Int),.int .i64 (0:Int)] 120 true) fun h1 s2=>(Gk k x0 s2).bind fun r3=>(H7 r3.1).bind fun l4=>(FL k k x0 h1 l4.1 l4.2.1 l4.2.2 ((l4.2.1:Nat):Int) (0:Int) r3.2).bind fun r22=>if r22.1 = .exit 0 then ((Fe k x0 r22.2.2).bind fun r23=>(Zq r23.1).bind fun q24=>if q24.length=2 then q24.head?.bind fun v25=>cG v25 fun n26 n27=>q24.tail.head?.bind fun v28=>(DF v28).bind fun b29=>T8 r23.2 h1 0 [.int .i64 n26,.int .i64 n27] fun s30=>(((VV s30 h1 0 2).bind fun v31=>some (.agg v31.toArray)).bind fun v32=>some [v32,.bool b29]).bind fun vs33=>some (Q9 vs33,s30) else none) else if r22.1 = .ret then (pq r22.2.1 fun b34=>(((VV r22.2.2 h1 0 2).bind fun v35=>some (.agg v35.toArray)).bind fun v36=>some [v36,.bool b34]).bind fun vs37=>some (Q9 vs37,r22.2.2)) else none)
theorem RW (k:Nat) (x0:Option Addr) (σ:Aa):CF k x0 σ=Jw k x0 σ:=by
 cases k with
 | zero=>simp only[CF,Ab]; rfl
 | succ k=>rw[La,Jf,Jw]; simp only[Jq,DG,C7,GY,Kl,PW,AY,AP,Bb,AZ,Ba,Bd,Bc,AV,Be,Ao,A7,Bf,Ag,Ar,Aq,Ak]
noncomputable def Lv (k:Nat) (x1:Option Addr) (x2:Int) (σ:Aa):Option (Value × Aa):=match k with
 | 0=>none
 | k+1=>(fP x1 fun x1=>fI x2 fun x2=>fL σ fun σ=>CC σ (.cells [] 154 true) fun h1 s2=>x1.bind fun a3=>(KS k (some ⟨a3.block,a3.off+3,none⟩) x2 s2).bind fun r4=>(DF r4.1).bind fun b5=>bif b5 then (x1.bind fun a6=>(HQ k (some ⟨a6.block,a6.off+3,none⟩) x2 r4.2).bind fun r7=>(BA .i64 r7.1).bind fun n8=>fI n8 fun y9=>fB true fun y10=>some (.tuple #[.int .i64 y9,.bool y10],r7.2)) else (bif decide (x2>(8:Int)) then (x1.bind fun a11=>(Gl k x1 (some ⟨a11.block,a11.off+5,none⟩) x2 r4.2).bind fun r12=>WG r12.1 fun n13 b14=>fI n13 fun y15=>fB b14 fun y16=>some (.tuple #[.int .i64 y15,.bool y16],r12.2)) else ((Jw k x1 r4.2).bind fun r17=>(Zq r17.1).bind fun q18=>if q18.length=2 then q18.head?.bind fun v19=>cG v19 fun n20 n21=>q18.tail.head?.bind fun v22=>(DF v22).bind fun b23=>CC r17.2 (.cells [.int .i64 (0:Int),.int .i64 (0:Int)] 120 true) fun h24 s25=>T8 s25 h24 0 [.int .i64 n20,.int .i64 n21] fun s26=>bif !b23 then (fI (0:Int) fun y27=>fB false fun y28=>some (.tuple #[.int .i64 y27,.bool y28],s26)) else ((Ai .i64 s26 h24 0).bind fun n29=>(Ai .i64 s26 h24 (0+1)).bind fun n30=>x1.bind fun a31=>T8 s26 a31.block (a31.off+3) [.int .i64 n29,.int .i64 n30] fun s32=>x1.bind fun a33=>(HQ k (some ⟨a33.block,a33.off+3,none⟩) x2 s32).bind fun r34=>(BA .i64 r34.1).bind fun n35=>fI n35 fun y36=>fB true fun y37=>some (.tuple #[.int .i64 y36,.bool y37],r34.2)) else none)))
theorem Uv (k:Nat) (x1:Option Addr) (x2:Int) (σ:Aa):CW k x1 x2 σ=Lv k x1 x2 σ:=by
 cases k with
 | zero=>simp only[CW,Ab]; rfl
 | succ k=>rw[Nn,Lj,Lv]; simp only[KY,QU,PX,RW,AY,AP,Bb,AZ,Ba,Bd,Bc,AV,Be,Ao,A7,Bf,Ag,Ar,Aq,Ak]
theorem TR (k:Nat) (x1:Option Addr) (x2:Int) (σ:Aa):fn P (XK Kn.b) H k 217 [.agg #[],.pointer x1,.int .i64 x2] σ=CW k x1 x2 σ:=by
 simp only[CW,Ab]
noncomputable def O8 (k:Nat) (n:FuncId) (l:List Value) (σ:Aa):Option (Value × Aa):=
 if n=99 then (match l with
  | [.pointer y1,.int .i64 y2]=>IP k y1 y2 σ
  | l=>fn P (XK Kn.b) H k 99 l σ) else
 if n=199 then (match l with
  | [.agg ⟨[]⟩,.pointer y1,.int .i64 y2]=>Lu k y1 y2 σ
  | l=>fn P (XK Kn.b) H k 199 l σ) else
 if n=204 then (match l with
  | [.agg ⟨[]⟩,.pointer y1,.int .i64 y2]=>Mo k y1 y2 σ
  | l=>fn P (XK Kn.b) H k 204 l σ) else
 if n=212 then (match l with
  | [.agg ⟨[]⟩,.pointer y1,.int .i64 y2]=>Mq k y1 y2 σ
  | l=>fn P (XK Kn.b) H k 212 l σ) else
 if n=213 then (match l with
  | [.agg ⟨[]⟩,.pointer y1,.int .i64 y2]=>Mp k y1 y2 σ
  | l=>fn P (XK Kn.b) H k 213 l σ) else
 if n=217 then (match l with
  | [.agg ⟨[]⟩,.pointer y1,.int .i64 y2]=>Lv k y1 y2 σ
  | l=>fn P (XK Kn.b) H k 217 l σ) else
 fn P (XK Kn.b) H k n l σ
theorem av (k:Nat) (n:FuncId) (l:List Value) (σ:Aa):fn P (XK Kn.b) H k n l σ=O8 k n l σ:=by
 unfold O8
 split
 ·rename_i hn; subst hn
  split
  ·exact (QK k _ _ σ).trans (Ry k _ _ σ)
  ·rfl
 split
 ·rename_i hn; subst hn
  split
  ·exact (TQ k _ _ σ).trans (Uu k _ _ σ)
  ·rfl
 split
 ·rename_i hn; subst hn
  split
  ·exact (Us k _ _ σ).trans (V2 k _ _ σ)
  ·rfl
 split
 ·rename_i hn; subst hn
  split
  ·exact (Uw k _ _ σ).trans (V5 k _ _ σ)
  ·rfl
 split
 ·rename_i hn; subst hn
  split
  ·exact (Ut k _ _ σ).trans (V4 k _ _ σ)
  ·rfl
 split
 ·rename_i hn; subst hn
  split
  ·exact (TR k _ _ σ).trans (Uv k _ _ σ)
  ·rfl
 rfl
noncomputable def RD (k:Nat) (f:Value) (args:List Value) (σ:Aa):Option (Value × Aa):=match f with
 | .func (.func n) first cap=>O8 k n (first.toList++args++cap.toList) σ
 | .func (.method nm) first _=>(match first.toList++args with
   | .iface t v::rest=>(Tk P t nm).bind fun n=>O8 k n (v::rest) σ
   | _=>none)
 | _=>none
theorem aw (k:Nat) (f:Value) (args:List Value) (σ:Aa):Cl k f args σ=RD k f args σ:=by
 simp only[Cl,Ab]
 unfold O2 RD
 simp only[av]
 rfl
noncomputable def Bu (k:Nat) (x0:Option Addr) (x1_0:Int) (x1_1:Int) (x1_2:Int) (σ:Aa):Option (Value × Aa):=match k with
 | 0=>none
 | k+1=>(fP x0 fun x0=>fI x1_0 fun x1_0=>fI x1_1 fun x1_1=>fI x1_2 fun x1_2=>fL σ fun σ=>CC σ (.cells [.int .i64 x1_0,.int .i64 x1_1,.int .i64 x1_2] 33 true) fun h1 s2=>(Jx k x0 s2).bind fun r3=>(DF r3.1).bind fun b4=>bif !b4 then (fI (0:Int) fun y5=>fI (5:Int) fun y6=>some (.tuple #[.int .i64 y5,.int .i64 y6],r3.2)) else ((Ai .i64 r3.2 h1 0).bind fun n7=>(Ai .i64 r3.2 h1 (0+1)).bind fun n8=>(Ai .i64 r3.2 h1 (0+1+1)).bind fun n9=>(N6 k n7 n8 n9 r3.2).bind fun r10=>(DF r10.1).bind fun b11=>bif !b11 then (fI (0:Int) fun y12=>fI (2:Int) fun y13=>some (.tuple #[.int .i64 y12,.int .i64 y13],r10.2)) else ((Ai .i64 r10.2 h1 0).bind fun n14=>(Ai .i64 r10.2 h1 (0+1)).bind fun n15=>(Ai .i64 r10.2 h1 (0+1+1)).bind fun n16=>(N7 k n14 n15 n16 r10.2).bind fun r17=>(BA .i64 r17.1).bind fun n18=>(KT k  r17.2).bind fun r19=>(H7 r19.1).bind fun l20=>x0.bind fun a21=>(Ai .i64 r19.2 a21.block (a21.off+2)).bind fun n22=>if 0≤n22∧n22<(l20.2.1:Nat) then l20.1.bind fun a23=>(Gy r19.2 a23.block (a23.off+n22.toNat*1)).bind fun v24=>oI v24 fun v25=>(bif decide (n18>(32:Int)) then (some (.normal,[.func (.func 99) #[] #[]],r19.2)) else (some (.normal,[(.func (.method "dustcart/alloc.place") #[v25] #[])],r19.2)):Option Ay).bind fun r26=>if r26.1 = .normal then (te r26.2.1 fun f27=>x0.bind fun a28=>(Js r26.2.2 a28.block a28.off).bind fun p29=>(Ai .i64 r26.2.2 a28.block (a28.off+1)).bind fun n30=>(Ai .i64 r26.2.2 a28.block (a28.off+1+1)).bind fun n31=>(Ai .i64 r26.2.2 a28.block (a28.off+1+1+1)).bind fun n32=>(Ai .i64 r26.2.2 a28.block (a28.off+1+1+1+1)).bind fun n33=>(Ai .i64 r26.2.2 a28.block (a28.off+1+1+1+1+1)).bind fun n34=>(Ai .i64 r26.2.2 a28.block (a28.off+1+1+1+1+1+1)).bind fun n35=>CC r26.2.2 (.cells [.pointer none,.int .i64 (0:Int),.int .i64 (0:Int),.int .i64 (0:Int),.int .i64 (0:Int),.int .i64 (0:Int),.int .i64 (0:Int)] 122 true) fun h36 s37=>T8 s37 h36 0 [.pointer p29,.int .i64 n30,.int .i64 n31,.int .i64 n32,.int .i64 n33,.int .i64 n34,.int .i64 n35] fun s38=>(RD k f27 [.pointer x0,.int .i64 n18] s38).bind fun r39=>WG r39.1 fun n40 b41=>bif !b41 then (fI (0:Int) fun y42=>fI (6:Int) fun y43=>some (.tuple #[.int .i64 y42,.int .i64 y43],r39.2)) else (x0.bind fun a44=>(Js r39.2 a44.block (a44.off+0)).bind fun p45=>if (64:Int)=0 then none else (Ke k p45 (Ac (n40.tdiv (64:Int))) r39.2).bind fun r46=>(BA .i64 r46.1).bind fun n47=>x0.bind fun a48=>(Ai .i64 r46.2 a48.block (a48.off+1)).bind fun n49=>(bif n47 == n49 then (x0.bind fun a50=>(Js r46.2 a50.block (a50.off+0)).bind fun p51=>(Ai .i64 r46.2 h1 0).bind fun n52=>(Ai .i64 r46.2 h1 (0+1)).bind fun n53=>(Ai .i64 r46.2 h1 (0+1+1)).bind fun n54=>(Kc k p51 n40 n52 n53 n54 r46.2).bind fun r55=>Gu r55.1 fun n56 n57=>some (.normal,[.int .i64 n57],r55.2)) else (some (.normal,[.int .i64 (5:Int)],r46.2)):Option Ay).bind fun r58=>if r58.1 = .normal then (SH r58.2.1 fun n59=>bif n59 != (0:Int) then ((Js r58.2.2 h36 0).bind fun p60=>(Ai .i64 r58.2.2 h36 (0+1)).bind fun n61=>(Ai .i64 r58.2.2 h36 (0+1+1)).bind fun n62=>(Ai .i64 r58.2.2 h36 (0+1+1+1)).bind fun n63=>(Ai .i64 r58.2.2 h36 (0+1+1+1+1)).bind fun n64=>(Ai .i64 r58.2.2 h36 (0+1+1+1+1+1)).bind fun n65=>(Ai .i64 r58.2.2 h36 (0+1+1+1+1+1+1)).bind fun n66=>x0.bind fun a67=>T8 r58.2.2 a67.block a67.off [.pointer p60,.int .i64 n61,.int .i64 n62,.int .i64 n63,.int .i64 n64,.int .i64 n65,.int .i64 n66] fun s68=>fI (0:Int) fun y69=>fI (6:Int) fun y70=>some (.tuple #[.int .i64 y69,.int .i64 y70],s68)) else (fI n40 fun y71=>fI (0:Int) fun y72=>some (.tuple #[.int .i64 y71,.int .i64 y72],r58.2.2))) else none)) else none else none)))
theorem Rx (k:Nat) (x0:Option Addr) (x1_0:Int) (x1_1:Int) (x1_2:Int) (σ:Aa):AN k x0 x1_0 x1_1 x1_2 σ=Bu k x0 x1_0 x1_1 x1_2 σ:=by
 cases k with
 | zero=>simp only[AN,Ab]; rfl
 | succ k=>rw[Kx,I6,Bu]; simp only[RA,R9,Mi,Qx,RX,QV,aw,AY,AP,Bb,AZ,Ba,Bd,Bc,AV,Be,Ao,A7,Bf,Ag,Ar,Aq,Ak]
noncomputable def Rq (k:Nat) (x0:Option Addr) (x1:Int) (x2:Int) (σ:Aa):Option (Value × Aa):=match k with
 | 0=>none
 | k+1=>(fP x0 fun x0=>fI x1 fun x1=>fI x2 fun x2=>fL σ fun σ=>(Et k x0 σ).bind fun r1=>(BA .i64 r1.1).bind fun n2=>(bif n2 == (0:Int) then some (true,r1.2) else some (decide (x1<(0:Int)),r1.2)).bind fun r3=>(bif r3.1 then some (true,r3.2) else some (decide (x1≥(8:Int)),r3.2)).bind fun r4=>(bif r4.1 then some (true,r4.2) else some (decide (x2<(0:Int)),r4.2)).bind fun r5=>(bif r5.1 then some (true,r5.2) else (KT k  r5.2).bind fun r6=>(H7 r6.1).bind fun l7=>some (decide (x2≥((l7.2.1:Nat):Int)),r6.2)).bind fun r8=>bif r8.1 then (fI (1:Int) fun y9=>some (.tuple #[.pointer none,.int .i64 y9],r8.2)) else (CC r8.2 (.cells [.pointer x0,.int .i64 x1,.int .i64 x2,.int .i64 (0:Int),.int .i64 (0:Int),.int .i64 (0:Int),.int .i64 (0:Int)] 122 true) fun h10 s11=>fI (0:Int) fun y12=>some (.tuple #[.pointer (some ⟨h10,0,none⟩),.int .i64 y12],s11)))
theorem fc (k:Nat) (x0:Option Addr) (x1:Int) (x2:Int) (σ:Aa):GP k x0 x1 x2 σ=Rq k x0 x1 x2 σ:=by
 cases k with
 | zero=>simp only[GP,Ab]; rfl
 | succ k=>rw[U0,Uy,Rq]; simp only[CZ,QV,AY,AP,Bb,AZ,Ba,Bd,Bc,AV,Be,Ao,A7,Bf,Ag,Ar,Aq,Ak]
noncomputable def Ow (k:Nat) (x0:Option Addr) (x1:Int) (σ:Aa):Option (Value × Aa):=match k with
 | 0=>none
 | k+1=>(fP x0 fun x0=>fI x1 fun x1=>fL σ fun σ=>(Jz k x0 x1 σ).bind fun r1=>(DF r1.1).bind fun b2=>bif !b2 then (fI (-1:Int) fun y3=>some (.int .i64 y3,r1.2)) else ((IU k x0 x1 r1.2).bind fun r4=>(BA .i64 r4.1).bind fun n5=>fI n5 fun y6=>some (.int .i64 y6,r4.2)))
theorem XE (k:Nat) (x0:Option Addr) (x1:Int) (σ:Aa):FX k x0 x1 σ=Ow k x0 x1 σ:=by
 cases k with
 | zero=>simp only[FX,Ab]; rfl
 | succ k=>rw[P4,Oe,Ow]; simp only[PA,HX,AY,AP,Bb,AZ,Ba,Bd,Bc,AV,Be,Ao,A7,Bf,Ag,Ar,Aq,Ak]
noncomputable def Pr (k:Nat) (x0:Option Addr) (x1:Int) (σ:Aa):Option (Value × Aa):=match k with
 | 0=>none
 | k+1=>(fP x0 fun x0=>fI x1 fun x1=>fL σ fun σ=>(DN k x0 σ).bind fun r1=>(DF r1.1).bind fun b2=>(bif b2 then some (decide (x1≥(0:Int)),r1.2) else some (false,r1.2)).bind fun r3=>(bif r3.1 then if (2:Int)=0 then none else some ((x1.tmod (2:Int)) == (0:Int),r3.2) else some (false,r3.2)).bind fun r4=>(bif r4.1 then x0.bind fun a5=>(Js r4.2 a5.block (a5.off+2)).bind fun p6=>if (2:Int)=0 then none else (Ow k p6 (Ac (x1.tdiv (2:Int))) r4.2).bind fun r7=>(BA .i64 r7.1).bind fun n8=>some (n8 == (1:Int),r7.2) else some (false,r4.2)).bind fun r9=>fB r9.1 fun y10=>some (.bool y10,r9.2))
theorem Yu (k:Nat) (x0:Option Addr) (x1:Int) (σ:Aa):G7 k x0 x1 σ=Pr k x0 x1 σ:=by
 cases k with
 | zero=>simp only[G7,Ab]; rfl
 | succ k=>rw[Qm,Pj,Pr]; simp only[Ec,XE,AY,AP,Bb,AZ,Ba,Bd,Bc,AV,Be,Ao,A7,Bf,Ag,Ar,Aq,Ak]
noncomputable def Mr (k:Nat) (x0:Option Addr) (x1:Int) (σ:Aa):Option (Value × Aa):=match k with
 | 0=>none
 | k+1=>(fP x0 fun x0=>fI x1 fun x1=>fL σ fun σ=>(DN k x0 σ).bind fun r1=>(DF r1.1).bind fun b2=>bif !b2 then (fI (5:Int) fun y3=>some (.int .i64 y3,r1.2)) else ((Pr k x0 x1 r1.2).bind fun r4=>(DF r4.1).bind fun b5=>bif !b5 then (fI (4:Int) fun y6=>some (.int .i64 y6,r4.2)) else (fI (0:Int) fun y7=>some (.int .i64 y7,r4.2))))
theorem VC (k:Nat) (x0:Option Addr) (x1:Int) (σ:Aa):EP k x0 x1 σ=Mr k x0 x1 σ:=by
 cases k with
 | zero=>simp only[EP,Ab]; rfl
 | succ k=>rw[NI,LZ,Mr]; simp only[Ec,Yu,AY,AP,Bb,AZ,Ba,Bd,Bc,AV,Be,Ao,A7,Bf,Ag,Ar,Aq,Ak]
noncomputable def Ov (k:Nat) (x0:Option Addr) (x1:Int) (x2:Int) (σ:Aa):Option (Value × Aa):=match k with
 | 0=>none
 | k+1=>(fP x0 fun x0=>fI x1 fun x1=>fI x2 fun x2=>fL σ fun σ=>x0.bind fun a1=>(Ew σ a1.block (a1.off+1)).bind fun l2=>(KL 3 1 (l2.1,l2.2.1,l2.2.2) (some (.int .i64 x1)) (some (.int .i64 (Ac (x1+x2)))) none σ).bind fun l3=>(if l3.2.1=0 then some σ else l3.1.bind fun a5=>Ki σ a5.block a5.off (rep l3.2.1 [.int .i64 (0:Int)])).bind fun s4=>sy s4 fun s4=>some (.tuple #[],s4))
theorem Xs (k:Nat) (x0:Option Addr) (x1:Int) (x2:Int) (σ:Aa):FV k x0 x1 x2 σ=Ov k x0 x1 x2 σ:=by
 cases k with
 | zero=>simp only[FV,Ab]; rfl
 | succ k=>rw[P2,Oc,Ov]; simp only[AY,AP,Bb,AZ,Ba,Bd,Bc,AV,Be,Ao,A7,Bf,Ag,Ar,Aq,Ak]
noncomputable def Oq (k:Nat) (x0:Option Addr) (x1:Int) (σ:Aa):Option (Value × Aa):=match k with
 | 0=>none
 | k+1=>(fP x0 fun x0=>fI x1 fun x1=>fL σ fun σ=>(Mr k x0 x1 σ).bind fun r1=>(BA .i64 r1.1).bind fun n2=>bif n2 != (0:Int) then (fI n2 fun y3=>some (.int .i64 y3,r1.2)) else (x0.bind fun a4=>(qg r1.2 a4.block (a4.off+4)).bind fun m5=>x0.bind fun a6=>(Ew r1.2 a6.block (a6.off+1)).bind fun l7=>if 0≤x1∧x1<(l7.2.1:Nat) then l7.1.bind fun a8=>(Ai .i64 r1.2 a8.block (a8.off+x1.toNat*1)).bind fun n9=>(fu r1.2 m5).bind fun es10=>sy (iX r1.2 m5 (Mm n9 es10)) fun s11=>x0.bind fun a12=>(Js s11 a12.block (a12.off+2)).bind fun p13=>if (2:Int)=0 then none else (IQ k p13 (Ac (x1.tdiv (2:Int))) (0:Int) s11).bind fun r14=>(BA .i64 r14.1).bind fun n15=>x0.bind fun a16=>(Js r14.2 a16.block (a16.off+3)).bind fun p17=>if (2:Int)=0 then none else (IQ k p17 (Ac (x1.tdiv (2:Int))) (0:Int) r14.2).bind fun r18=>(BA .i64 r18.1).bind fun n19=>(GV k x0 x1 r18.2).bind fun r20=>(BA .i64 r20.1).bind fun n21=>(Ov k x0 x1 n21 r20.2).bind fun r22=>Uk r22.1 (fI (0:Int) fun y23=>some (.int .i64 y23,r22.2)) else none))
theorem Xq (k:Nat) (x0:Option Addr) (x1:Int) (σ:Aa):DL k x0 x1 σ=Oq k x0 x1 σ:=by
 cases k with
 | zero=>simp only[DL,Ab]; rfl
 | succ k=>rw[Px,NX,Oq]; simp only[VC,Fy,Rt,Xs,AY,AP,Bb,AZ,Ba,Bd,Bc,AV,Be,Ao,A7,Bf,Ag,Ar,Aq,Ak]
noncomputable def RF (k:Nat)  (σ:Aa):Option (Value × Aa):=match k with
 | 0=>none
 | k+1=>(fL σ fun σ=>(Tw k (4:Int) σ).bind fun r1=>Uh r1.1 fun p2 n3=>(Rq k p2 (0:Int) (0:Int) r1.2).bind fun r4=>Uh r4.1 fun p5 n6=>(Vi P 42 (.pointer p5) (.pointer none)).bind fun e7=>(bif e7 then some (true,r4.2) else some (n6 != (0:Int),r4.2)).bind fun r8=>bif r8.1 then (fB false fun y9=>some (.bool y9,r8.2)) else ((Bu k p5 (0:Int) (4:Int) (0:Int) r8.2).bind fun r10=>Gu r10.1 fun n11 n12=>(Bu k p5 (0:Int) (0:Int) (0:Int) r10.2).bind fun r13=>Gu r13.1 fun n14 n15=>(Bu k p5 (0:Int) (4:Int) (0:Int) r13.2).bind fun r16=>Gu r16.1 fun n17 n18=>(Oq k p2 (64:Int) r16.2).bind fun r19=>(BA .i64 r19.1).bind fun n20=>(Bu k p5 (0:Int) (2:Int) (0:Int) r19.2).bind fun r21=>Gu r21.1 fun n22 n23=>(Bu k p5 (0:Int) (2:Int) (0:Int) r21.2).bind fun r24=>Gu r24.1 fun n25 n26=>(bif n11 != (64:Int) then some (true,r24.2) else some (n12 != (0:Int),r24.2)).bind fun r27=>(bif r27.1 then some (true,r27.2) else some (n14 != (70:Int),r27.2)).bind fun r28=>(bif r28.1 then some (true,r28.2) else some (n17 != (72:Int),r28.2)).bind fun r29=>(bif r29.1 then some (true,r29.2) else some (n22 != (64:Int),r29.2)).bind fun r30=>(bif r30.1 then some (true,r30.2) else some (n25 != (78:Int),r30.2)).bind fun r31=>bif r31.1 then (fB false fun y32=>some (.bool y32,r31.2)) else ((Tw k (4:Int) r31.2).bind fun r33=>Uh r33.1 fun p34 n35=>(Kb k p34 (1:Int) (0:Int) r33.2).bind fun r36=>(BA .i64 r36.1).bind fun n37=>(Kc k p34 (72:Int) (0:Int) (6:Int) (0:Int) r36.2).bind fun r38=>Gu r38.1 fun n39 n40=>(Rq k p34 (0:Int) (4:Int) r38.2).bind fun r41=>Uh r41.1 fun p42 n43=>(Bu k p42 (0:Int) (6:Int) (0:Int) r41.2).bind fun r44=>Gu r44.1 fun n45 n46=>(Bu k p42 (0:Int) (6:Int) (0:Int) r44.2).bind fun r47=>Gu r47.1 fun n48 n49=>(Bu k p42 (0:Int) (30:Int) (0:Int) r47.2).bind fun r50=>Gu r50.1 fun n51 n52=>(Bu k p42 (0:Int) (8:Int) (0:Int) r50.2).bind fun r53=>Gu r53.1 fun n54 n55=>(bif n45 == (64:Int) then some (n48 == (80:Int),r53.2) else some (false,r53.2)).bind fun r56=>(bif r56.1 then some (n54 == (128:Int),r56.2) else some (false,r56.2)).bind fun r57=>(bif r57.1 then some (n55 == (0:Int),r57.2) else some (false,r57.2)).bind fun r58=>fB r58.1 fun y59=>some (.bool y59,r58.2))))
theorem bj (k:Nat)  (σ:Aa):Fo k  σ=RF k  σ:=by
 cases k with
 | zero=>simp only[Fo,Ab]; rfl
 | succ k=>rw[U3,VK,RF]; simp only[hO,Rx,fc,Mh,Qx,Xq,AY,AP,Bb,AZ,Ba,Bd,Bc,AV,Be,Ao,A7,Bf,Ag,Ar,Aq,Ak]
end Go.Proofs.YtlaplcglpnlieaaGreat
