/-
 PRINTED BY A PROGRAM OF THIS SESSION'S OWN (gen2.py): the functions that the examples reach, as definitions.
-/
import Derived.Test.YtlaplcglpnlieaaGreatP6
import Derived.Test.YtlaplcglpnlieaaGreatP10
set_option maxRecDepth 100000
set_option linter.unusedVariables false
set_option linter.unusedSimpArgs false
set_option linter.unusedSectionVars false
namespace Go.Proofs.YtlaplcglpnlieaaGreat
open Go Go.AX
local instance u9:Kn:=⟨false⟩
variable [AN]
noncomputable def Ht (k n:Nat) (p0:Option Addr) (c1:Nat) (c2:Nat) (i3:Int) (i4:Int) (x8:Int) (σ:Aa):Option Aw:=match n with
 | 0=>none
 | n+1=>(fP p0 fun p0=>fN c1 fun c1=>fN c2 fun c2=>fI i3 fun i3=>fI i4 fun i4=>fI x8 fun x8=>fL σ fun σ=>bif decide (x8<i4) then (if 0≤x8∧x8<(c1:Nat) then p0.bind fun a1=>(Ai .i64 σ a1.block (a1.off+x8.toNat*1)).bind fun n2=>bif i3 == n2 then (some (.ret,[.int .i64 x8],σ)) else (Ht k n p0 c1 c2 i3 i4 (Ac (x8+(1:Int))) σ) else none) else (some (.exit 0,[],σ)))
termination_by structural n
theorem Ue (k n:Nat) (p0:Option Addr) (c1:Nat) (c2:Nat) (i3:Int) (i4:Int) (x8:Int) (σ:Aa):DU k n p0 c1 c2 i3 i4 x8 σ=Ht k n p0 c1 c2 i3 i4 x8 σ:=by
 induction n generalizing p0 c1 c2 i3 i4 x8 σ with
 | zero=>simp only[DU,Ab]; rfl
 | succ n ih=>rw[LZ,Kh,Ht]; simp only[ih,Bb,AU,Bf,Bc,Be,Bh,Bg,AY,Bi,Ap,A7,Bj,Ah,Ar,Aq,Ak]
noncomputable def MJ (k:Nat) (x0:Option Addr × Nat × Nat) (x1:Int) (σ:Aa):Option (Value × Aa):=match k with
 | 0=>none
 | k+1=>(fS x0 fun x0=>fI x1 fun x1=>fL σ fun σ=>(Ht k k x0.1 x0.2.1 x0.2.2 x1 ((x0.2.1:Nat):Int) (0:Int) σ).bind fun r3=>if r3.1 = .exit 0 then (fI (-1:Int) fun y4=>some (.int .i64 y4,r3.2.2)) else if r3.1 = .ret then (Uj r3.2.1 fun n5=>fI n5 fun y6=>some (.int .i64 y6,r3.2.2)) else none)
theorem Ws (k:Nat) (x0:Option Addr × Nat × Nat) (x1:Int) (σ:Aa):Ge k x0 x1 σ=MJ k x0 x1 σ:=by
 cases k with
 | zero=>simp only[Ge,Ab]; rfl
 | succ k=>rw[Oh,Mz,MJ]; simp only[Ue,Bb,AU,Bf,Bc,Be,Bh,Bg,AY,Bi,Ap,A7,Bj,Ah,Ar,Aq,Ak]
noncomputable def Ko (k:Nat) (x0:Option Addr × Nat × Nat) (x1:Int) (σ:Aa):Option (Value × Aa):=match k with
 | 0=>none
 | k+1=>(fS x0 fun x0=>fI x1 fun x1=>fL σ fun σ=>(MJ k (x0.1,x0.2.1,x0.2.2) x1 σ).bind fun r1=>(BG .i64 r1.1).bind fun n2=>fB (decide (n2≥(0:Int))) fun y3=>some (.bool y3,r1.2))
theorem Ud (k:Nat) (x0:Option Addr × Nat × Nat) (x1:Int) (σ:Aa):EH k x0 x1 σ=Ko k x0 x1 σ:=by
 cases k with
 | zero=>simp only[EH,Ab]; rfl
 | succ k=>rw[LY,Kg,Ko]; simp only[Ws,Bb,AU,Bf,Bc,Be,Bh,Bg,AY,Bi,Ap,A7,Bj,Ah,Ar,Aq,Ak]
noncomputable def TX (k:Nat) (x0:Int) (x1:Int) (σ:Aa):Option (Value × Aa):=match k with
 | 0=>none
 | k+1=>(fI x0 fun x0=>fI x1 fun x1=>fL σ fun σ=>(bif decide (x0<(1:Int)) then some (true,σ) else some (decide (x0>(4096:Int)),σ)).bind fun r1=>(bif r1.1 then some (true,r1.2) else CF r1.2 (.cells [.int .i64 (1:Int),.int .i64 (2:Int),.int .i64 (4:Int),.int .i64 (8:Int)] 3 true) fun h2 s3=>(Ko k (some ⟨h2,0,none⟩,4,4) x1 s3).bind fun r4=>(DW r4.1).bind fun b5=>some (!b5,r4.2)).bind fun r6=>bif r6.1 then (fI (1:Int) fun y7=>some (.tuple #[.pointer none,.int .i64 y7],r6.2)) else (if (64:Int)=0 then none else if 0≤(Ac ((Ac ((Ac ((Ac (x0*x1))+(64:Int)))-(1:Int))).tdiv (64:Int)))∧(Ac ((Ac ((Ac ((Ac (x0*x1))+(64:Int)))-(1:Int))).tdiv (64:Int)))≤(Ac ((Ac ((Ac ((Ac (x0*x1))+(64:Int)))-(1:Int))).tdiv (64:Int)))∧(Ac ((Ac ((Ac ((Ac (x0*x1))+(64:Int)))-(1:Int))).tdiv (64:Int)))*(8:Nat)≤2 ^ 40∧(Ac ((Ac ((Ac ((Ac (x0*x1))+(64:Int)))-(1:Int))).tdiv (64:Int)))≤2 ^ 40 then CF r6.2 (.cells (rep (Ac ((Ac ((Ac ((Ac (x0*x1))+(64:Int)))-(1:Int))).tdiv (64:Int))).toNat [.int .u64 (0:Int)]) 138 true) fun h8 s9=>CF s9 (.cells [.int .i64 x0,.int .i64 x1,.slice (some ⟨h8,0,none⟩) ((Ac ((Ac ((Ac ((Ac (x0*x1))+(64:Int)))-(1:Int))).tdiv (64:Int))).toNat) ((Ac ((Ac ((Ac ((Ac (x0*x1))+(64:Int)))-(1:Int))).tdiv (64:Int))).toNat)] 136 true) fun h10 s11=>fI (0:Int) fun y12=>some (.tuple #[.pointer (some ⟨h10,0,none⟩),.int .i64 y12],s11) else none))
theorem j6 (k:Nat) (x0:Int) (x1:Int) (σ:Aa):M0 k x0 x1 σ=TX k x0 x1 σ:=by
 cases k with
 | zero=>simp only[M0,Ab]; rfl
 | succ k=>rw[WC,WZ,TX]; simp only[Ud,Bb,AU,Bf,Bc,Be,Bh,Bg,AY,Bi,Ap,A7,Bj,Ah,Ar,Aq,Ak]
noncomputable def TT (k:Nat) (x0:Int) (σ:Aa):Option (Value × Aa):=match k with
 | 0=>none
 | k+1=>(fI x0 fun x0=>fL σ fun σ=>(bif decide (x0<(2:Int)) then some (true,σ) else some (decide (x0>(64:Int)),σ)).bind fun r1=>bif r1.1 then (fI (1:Int) fun y2=>some (.tuple #[.pointer none,.int .i64 y2],r1.2)) else (if 0≤x0∧x0≤x0∧x0*(16:Nat)≤2 ^ 40∧x0≤2 ^ 40 then CF r1.2 (.cells (rep x0.toNat [.int .i64 (0:Int),.int .i64 (0:Int)]) 104 true) fun h3 s4=>if 0≤(Ac (x0*(64:Int)))∧(Ac (x0*(64:Int)))≤(Ac (x0*(64:Int)))∧(Ac (x0*(64:Int)))*(8:Nat)≤2 ^ 40∧(Ac (x0*(64:Int)))≤2 ^ 40 then CF s4 (.cells (rep (Ac (x0*(64:Int))).toNat [.int .i64 (0:Int)]) 3 true) fun h5 s6=>CF s6 (.map []) fun h7 s8=>CF s8 (.map []) fun h9 s10=>CF s10 (.cells [.slice (some ⟨h3,0,none⟩) x0.toNat x0.toNat,.slice (some ⟨h5,0,none⟩) ((Ac (x0*(64:Int))).toNat) ((Ac (x0*(64:Int))).toNat),.pointer none,.pointer none,.map (some h7),.map (some h9),.int .i64 (0:Int)] 94 true) fun h11 s12=>(En s12 h11 (0+1)).bind fun l13=>if (2:Int)=0 then none else (TX k (Ac (((l13.2.1:Nat):Int).tdiv (2:Int))) (1:Int) s12).bind fun r14=>UF r14.1 fun p15 n16=>Wt r14.2 h11 (0+2) (.pointer p15) fun s17=>(En s17 h11 (0+1)).bind fun l18=>if (2:Int)=0 then none else (TX k (Ac (((l18.2.1:Nat):Int).tdiv (2:Int))) (1:Int) s17).bind fun r19=>UF r19.1 fun p20 n21=>Wt r19.2 h11 (0+3) (.pointer p20) fun s22=>fI (0:Int) fun y23=>some (.tuple #[.pointer (some ⟨h11,0,none⟩),.int .i64 y23],s22) else none else none))
theorem iR (k:Nat) (x0:Int) (σ:Aa):GG k x0 σ=TT k x0 σ:=by
 cases k with
 | zero=>simp only[GG,Ab]; rfl
 | succ k=>rw[Se,Ty,TT]; simp only[j6,Bb,AU,Bf,Bc,Be,Bh,Bg,AY,Bi,Ap,A7,Bj,Ah,Ar,Aq,Ak]
noncomputable def NQ (k:Nat) (x0_0:Int) (x0_1:Int) (x0_2:Int) (σ:Aa):Option (Value × Aa):=match k with
 | 0=>none
 | k+1=>(fI x0_0 fun x0_0=>fI x0_1 fun x0_1=>fI x0_2 fun x0_2=>fL σ fun σ=>CF σ (.cells [.int .i64 x0_0,.int .i64 x0_1,.int .i64 x0_2] 33 true) fun h1 s2=>(Ai .i64 s2 h1 (0+0)).bind fun n3=>(bif decide (n3≥(0:Int)) then (Ai .i64 s2 h1 (0+0)).bind fun n4=>some (decide (n4≤(15:Int)),s2) else some (false,s2)).bind fun r5=>(bif r5.1 then (Ai .i64 r5.2 h1 (0+1)).bind fun n6=>some (decide (n6≥(0:Int)),r5.2) else some (false,r5.2)).bind fun r7=>(bif r7.1 then (Ai .i64 r7.2 h1 (0+1)).bind fun n8=>some (decide (n8≤(200:Int)),r7.2) else some (false,r7.2)).bind fun r9=>(bif r9.1 then (Ai .i64 r9.2 h1 (0+2)).bind fun n10=>some (decide (n10≥(0:Int)),r9.2) else some (false,r9.2)).bind fun r11=>(bif r11.1 then (Ai .i64 r11.2 h1 (0+2)).bind fun n12=>some (decide (n12≤(3:Int)),r11.2) else some (false,r11.2)).bind fun r13=>(bif r13.1 then (Ai .i64 r13.2 h1 (0+2)).bind fun n14=>(bif n14 != (1:Int) then some (true,r13.2) else (Ai .i64 r13.2 h1 (0+0)).bind fun n15=>some (decide (n15≥(1:Int)),r13.2)).bind fun r16=>some (r16.1,r16.2) else some (false,r13.2)).bind fun r17=>(bif r17.1 then (Ai .i64 r17.2 h1 (0+2)).bind fun n18=>(bif n18 != (2:Int) then some (true,r17.2) else (Ai .i64 r17.2 h1 (0+0)).bind fun n19=>some (decide (n19≥(2:Int)),r17.2)).bind fun r20=>some (r20.1,r20.2) else some (false,r17.2)).bind fun r21=>fB r21.1 fun y22=>some (.bool y22,r21.2))
theorem Sl (k:Nat) (x0_0:Int) (x0_1:Int) (x0_2:Int) (σ:Aa):Fu k x0_0 x0_1 x0_2 σ=NQ k x0_0 x0_1 x0_2 σ:=by
 cases k with
 | zero=>simp only[Fu,Ab]; rfl
 | succ k=>rw[Up,Tz,NQ]; simp only[Bb,AU,Bf,Bc,Be,Bh,Bg,AY,Bi,Ap,A7,Bj,Ah,Ar,Aq,Ak]
noncomputable def NR (k:Nat) (x0_0:Int) (x0_1:Int) (x0_2:Int) (σ:Aa):Option (Value × Aa):=match k with
 | 0=>none
 | k+1=>(fI x0_0 fun x0_0=>fI x0_1 fun x0_1=>fI x0_2 fun x0_2=>fL σ fun σ=>CF σ (.cells [.int .i64 x0_0,.int .i64 x0_1,.int .i64 x0_2] 33 true) fun h1 s2=>(Ai .i64 s2 h1 0).bind fun n3=>(Ai .i64 s2 h1 (0+1)).bind fun n4=>(Ai .i64 s2 h1 (0+1+1)).bind fun n5=>(NQ k n3 n4 n5 s2).bind fun r6=>(DW r6.1).bind fun b7=>bif !b7 then (fI (0:Int) fun y8=>some (.int .i64 y8,r6.2)) else ((Ai .i64 r6.2 h1 (0+0)).bind fun n9=>(Ai .i64 r6.2 h1 (0+1)).bind fun n10=>if (2:Int)=0 then none else fI (Ac ((Ac ((Ac ((Ac ((Ac ((2:Int)+n9))+n10))+(1:Int))).tdiv (2:Int)))*(2:Int))) fun y11=>some (.int .i64 y11,r6.2)))
theorem Sn (k:Nat) (x0_0:Int) (x0_1:Int) (x0_2:Int) (σ:Aa):Fv k x0_0 x0_1 x0_2 σ=NR k x0_0 x0_1 x0_2 σ:=by
 cases k with
 | zero=>simp only[Fv,Ab]; rfl
 | succ k=>rw[Uq,T0,NR]; simp only[Sl,Bb,AU,Bf,Bc,Be,Bh,Bg,AY,Bi,Ap,A7,Bj,Ah,Ar,Aq,Ak]
noncomputable def DN (k:Nat) (x0:Option Addr) (σ:Aa):Option (Value × Aa):=match k with
 | 0=>none
 | k+1=>(fP x0 fun x0=>fL σ fun σ=>(SO P 25 (.pointer x0) (.pointer none)).bind fun e1=>(bif !e1 then x0.bind fun a2=>(En σ a2.block (a2.off+0)).bind fun l3=>some (decide (((l3.2.1:Nat):Int)>(0:Int)),σ) else some (false,σ)).bind fun r4=>fB r4.1 fun y5=>some (.bool y5,r4.2))
theorem Eb (k:Nat) (x0:Option Addr) (σ:Aa):A9 k x0 σ=DN k x0 σ:=by
 cases k with
 | zero=>simp only[A9,Ab]; rfl
 | succ k=>rw[PO,Oy,DN]; simp only[Bb,AU,Bf,Bc,Be,Bh,Bg,AY,Bi,Ap,A7,Bj,Ah,Ar,Aq,Ak]
noncomputable def Eu (k:Nat) (x0:Option Addr) (σ:Aa):Option (Value × Aa):=match k with
 | 0=>none
 | k+1=>(fP x0 fun x0=>fL σ fun σ=>(DN k x0 σ).bind fun r1=>(DW r1.1).bind fun b2=>bif !b2 then (fI (0:Int) fun y3=>some (.int .i64 y3,r1.2)) else (x0.bind fun a4=>(En r1.2 a4.block (a4.off+0)).bind fun l5=>fI ((l5.2.1:Nat):Int) fun y6=>some (.int .i64 y6,r1.2)))
theorem Dd (k:Nat) (x0:Option Addr) (σ:Aa):AF k x0 σ=Eu k x0 σ:=by
 cases k with
 | zero=>simp only[AF,Ab]; rfl
 | succ k=>rw[Ob,Ms,Eu]; simp only[Eb,Bb,AU,Bf,Bc,Be,Bh,Bg,AY,Bi,Ap,A7,Bj,Ah,Ar,Aq,Ak]
noncomputable def Kx (k:Nat) (x0:Option Addr) (x1:Int) (σ:Aa):Option (Value × Aa):=match k with
 | 0=>none
 | k+1=>(fP x0 fun x0=>fI x1 fun x1=>fL σ fun σ=>(bif decide (x1<(0:Int)) then some (true,σ) else (Eu k x0 σ).bind fun r1=>(BG .i64 r1.1).bind fun n2=>some (decide (x1≥n2),r1.2)).bind fun r3=>bif r3.1 then (fI (-1:Int) fun y4=>some (.int .i64 y4,r3.2)) else (x0.bind fun a5=>(En r3.2 a5.block (a5.off+0)).bind fun l6=>if 0≤x1∧x1<(l6.2.1:Nat) then l6.1.bind fun a7=>(Ai .i64 r3.2 a7.block (a7.off+x1.toNat*2+1)).bind fun n8=>fI n8 fun y9=>some (.int .i64 y9,r3.2) else none))
theorem M5 (k:Nat) (x0:Option Addr) (x1:Int) (σ:Aa):BI k x0 x1 σ=Kx k x0 x1 σ:=by
 cases k with
 | zero=>simp only[BI,Ab]; rfl
 | succ k=>rw[KP,Kq,Kx]; simp only[Dd,Bb,AU,Bf,Bc,Be,Bh,Bg,AY,Bi,Ap,A7,Bj,Ah,Ar,Aq,Ak]
noncomputable def IJ (k n:Nat) (p0:Option Addr) (i1:Int) (x5:Int) (σ:Aa):Option Aw:=match n with
 | 0=>none
 | n+1=>(fP p0 fun p0=>fI i1 fun i1=>fI x5 fun x5=>fL σ fun σ=>p0.bind fun a1=>(En σ a1.block (a1.off+0)).bind fun l2=>if 0≤i1∧i1<(l2.2.1:Nat) then l2.1.bind fun a3=>(Ai .i64 σ a3.block (a3.off+i1.toNat*2+0)).bind fun n4=>(bif n4 == (2:Int) then p0.bind fun a5=>(En σ a5.block (a5.off+0)).bind fun l6=>some (decide ((Ac (i1+x5))<((l6.2.1:Nat):Int)),σ) else some (false,σ)).bind fun r7=>(bif r7.1 then p0.bind fun a8=>(En r7.2 a8.block (a8.off+0)).bind fun l9=>if 0≤(Ac (i1+x5))∧(Ac (i1+x5))<(l9.2.1:Nat) then l9.1.bind fun a10=>(Ai .i64 r7.2 a10.block (a10.off+(Ac (i1+x5)).toNat*2+0)).bind fun n11=>some (n11 == (3:Int),r7.2) else none else some (false,r7.2)).bind fun r12=>bif r12.1 then (IJ k n p0 i1 (Ac (x5+(1:Int))) r12.2) else (some (.exit 0,[.int .i64 x5],r12.2)) else none)
termination_by structural n
theorem Vw (k n:Nat) (p0:Option Addr) (i1:Int) (x5:Int) (σ:Aa):DO k n p0 i1 x5 σ=IJ k n p0 i1 x5 σ:=by
 induction n generalizing p0 i1 x5 σ with
 | zero=>simp only[DO,Ab]; rfl
 | succ n ih=>rw[JA,IA,IJ]; simp only[ih,Bb,AU,Bf,Bc,Be,Bh,Bg,AY,Bi,Ap,A7,Bj,Ah,Ar,Aq,Ak]
noncomputable def OL (k:Nat) (x0:Option Addr) (x1:Int) (σ:Aa):Option (Value × Aa):=match k with
 | 0=>none
 | k+1=>(fP x0 fun x0=>fI x1 fun x1=>fL σ fun σ=>(IJ k k x0 x1 (1:Int) σ).bind fun r13=>if r13.1 = .exit 0 then (Uj r13.2.1 fun n14=>fI n14 fun y15=>some (.int .i64 y15,r13.2.2)) else none)
theorem RF (k:Nat) (x0:Option Addr) (x1:Int) (σ:Aa):Dg k x0 x1 σ=OL k x0 x1 σ:=by
 cases k with
 | zero=>simp only[Dg,Ab]; rfl
 | succ k=>rw[PS,O0,OL]; simp only[Vw,Bb,AU,Bf,Bc,Be,Bh,Bg,AY,Bi,Ap,A7,Bj,Ah,Ar,Aq,Ak]
noncomputable def TU (k:Nat) (x0:Int) (σ:Aa):Option (Value × Aa):=match k with
 | 0=>none
 | k+1=>(fI x0 fun x0=>fL σ fun σ=>CF σ (.cells [.int .i64 (0:Int),.int .i64 (0:Int),.int .i64 (0:Int)] 33 true) fun h1 s2=>if (16:Int)=0 then none else if (4096:Int)=0 then none else if (16:Int)=0 then none else if (4096:Int)=0 then none else Ug s2 h1 0 [.int .i64 (x0.tmod (16:Int)),.int .i64 (Ac ((x0.tmod (4096:Int)).tdiv (16:Int))),.int .i64 (Ac (x0.tdiv (4096:Int)))] fun s3=>(((To s3 h1 0 3).bind fun v4=>some (.agg v4.toArray)).bind fun v5=>some [v5]).bind fun vs6=>some (Ra vs6,s3))
theorem dE (k:Nat) (x0:Int) (σ:Aa):JB k x0 σ=TU k x0 σ:=by
 cases k with
 | zero=>simp only[JB,Ab]; rfl
 | succ k=>rw[Ur,T1,TU]; simp only[Bb,AU,Bf,Bc,Be,Bh,Bg,AY,Bi,Ap,A7,Bj,Ah,Ar,Aq,Ak]
noncomputable def Hb (k:Nat) (x0:Option Addr) (x1:Int) (σ:Aa):Option (Value × Aa):=match k with
 | 0=>none
 | k+1=>(fP x0 fun x0=>fI x1 fun x1=>fL σ fun σ=>x0.bind fun a1=>(En σ a1.block (a1.off+1)).bind fun l2=>if 0≤(Ac (x1+(1:Int)))∧(Ac (x1+(1:Int)))<(l2.2.1:Nat) then l2.1.bind fun a3=>(Ai .i64 σ a3.block (a3.off+(Ac (x1+(1:Int))).toNat*1)).bind fun n4=>(TU k n4 σ).bind fun r5=>lL r5.1 fun n6 n7 n8=>(NR k n6 n7 n8 r5.2).bind fun r9=>(BG .i64 r9.1).bind fun n10=>fI n10 fun y11=>some (.int .i64 y11,r9.2) else none)
theorem F0 (k:Nat) (x0:Option Addr) (x1:Int) (σ:Aa):BV k x0 x1 σ=Hb k x0 x1 σ:=by
 cases k with
 | zero=>simp only[BV,Ab]; rfl
 | succ k=>rw[PQ,Oz,Hb]; simp only[Sn,dE,Bb,AU,Bf,Bc,Be,Bh,Bg,AY,Bi,Ap,A7,Bj,Ah,Ar,Aq,Ak]
noncomputable def G7 (k:Nat) (x0:Option Addr) (σ:Aa):Option (Value × Aa):=match k with
 | 0=>none
 | k+1=>(fP x0 fun x0=>fL σ fun σ=>(SO P 92 (.pointer x0) (.pointer none)).bind fun e1=>(bif !e1 then x0.bind fun a2=>(Ai .i64 σ a2.block (a2.off+0)).bind fun n3=>some (decide (n3>(0:Int)),σ) else some (false,σ)).bind fun r4=>fB r4.1 fun y5=>some (.bool y5,r4.2))
theorem Gi (k:Nat) (x0:Option Addr) (σ:Aa):B3 k x0 σ=G7 k x0 σ:=by
 cases k with
 | zero=>simp only[B3,Ab]; rfl
 | succ k=>rw[Pr,N2,G7]; simp only[Bb,AU,Bf,Bc,Be,Bh,Bg,AY,Bi,Ap,A7,Bj,Ah,Ar,Aq,Ak]
noncomputable def Ii (k:Nat) (x0:Option Addr) (σ:Aa):Option (Value × Aa):=match k with
 | 0=>none
 | k+1=>(fP x0 fun x0=>fL σ fun σ=>x0.bind fun a1=>(Ai .i64 σ a1.block (a1.off+1)).bind fun n2=>if n2<0 then none else fI (Ac ((Ac ((1:Int)*2 ^ (min n2.toNat 64)))-(1:Int))) fun y3=>some (.int .i64 y3,σ))
theorem MK (k:Nat) (x0:Option Addr) (σ:Aa):CL k x0 σ=Ii k x0 σ:=by
 cases k with
 | zero=>simp only[CL,Ab]; rfl
 | succ k=>rw[Ps,N3,Ii]; simp only[Bb,AU,Bf,Bc,Be,Bh,Bg,AY,Bi,Ap,A7,Bj,Ah,Ar,Aq,Ak]
noncomputable def Jn (k:Nat) (x0:Option Addr) (x1:Int) (σ:Aa):Option (Value × Aa):=match k with
 | 0=>none
 | k+1=>(fP x0 fun x0=>fI x1 fun x1=>fL σ fun σ=>x0.bind fun a1=>(Ai .i64 σ a1.block (a1.off+1)).bind fun n2=>x0.bind fun a3=>(En σ a3.block (a3.off+2)).bind fun l4=>if (64:Int)=0 then none else if 0≤(Ac ((Ac (x1*n2)).tdiv (64:Int)))∧(Ac ((Ac (x1*n2)).tdiv (64:Int)))<(l4.2.1:Nat) then l4.1.bind fun a5=>(Ai .u64 σ a5.block (a5.off+(Ac ((Ac (x1*n2)).tdiv (64:Int))).toNat*1)).bind fun n6=>if (64:Int)=0 then none else if ((Ac (x1*n2)).tmod (64:Int))<0 then none else (Ii k x0 σ).bind fun r7=>(BG .i64 r7.1).bind fun n8=>fI (Ac ((BitVec.ofInt 64 (Ac (n6.fdiv (2 ^ (min ((Ac (x1*n2)).tmod (64:Int)).toNat 64)))) &&& BitVec.ofInt 64 n8).toNat)) fun y9=>some (.int .i64 y9,r7.2) else none)
theorem Ij (k:Nat) (x0:Option Addr) (x1:Int) (σ:Aa):Di k x0 x1 σ=Jn k x0 x1 σ:=by
 cases k with
 | zero=>simp only[Di,Ab]; rfl
 | succ k=>rw[PX,O7,Jn]; simp only[MK,Bb,AU,Bf,Bc,Be,Bh,Bg,AY,Bi,Ap,A7,Bj,Ah,Ar,Aq,Ak]
noncomputable def Ig (k n:Nat) (p0:Option Addr) (i1:Int) (x8:Int) (σ:Aa):Option Aw:=match n with
 | 0=>none
 | n+1=>(fP p0 fun p0=>fI i1 fun i1=>fI x8 fun x8=>fL σ fun σ=>bif decide (x8≥(0:Int)) then ((Jn k p0 x8 σ).bind fun r7=>(BG .i64 r7.1).bind fun n8=>bif n8 == i1 then (some (.ret,[.int .i64 x8,.int .i64 (0:Int)],r7.2)) else (Ig k n p0 i1 (Ac (x8-(1:Int))) r7.2)) else (some (.exit 0,[],σ)))
termination_by structural n
theorem UG (k n:Nat) (p0:Option Addr) (i1:Int) (x8:Int) (σ:Aa):Dt k n p0 i1 x8 σ=Ig k n p0 i1 x8 σ:=by
 induction n generalizing p0 i1 x8 σ with
 | zero=>simp only[Dt,Ab]; rfl
 | succ n ih=>rw[Ji,HK,Ig]; simp only[Gi,Ij,ih,Bb,AU,Bf,Bc,Be,Bh,Bg,AY,Bi,Ap,A7,Bj,Ah,Ar,Aq,Ak]
noncomputable def NS (k:Nat) (x0:Option Addr) (x1:Int) (x2:Int) (σ:Aa):Option (Value × Aa):=match k with
 | 0=>none
 | k+1=>(fP x0 fun x0=>fI x1 fun x1=>fI x2 fun x2=>fL σ fun σ=>(G7 k x0 σ).bind fun r1=>(DW r1.1).bind fun b2=>bif !b2 then (fI (0:Int) fun y3=>fI (5:Int) fun y4=>some (.tuple #[.int .i64 y3,.int .i64 y4],r1.2)) else (x0.bind fun a5=>(Ai .i64 r1.2 a5.block (a5.off+0)).bind fun n6=>(Ig k k x0 x2 (Ac ((if n6<(if (0:Int)>x1 then (0:Int) else x1) then n6 else (if (0:Int)>x1 then (0:Int) else x1))-(1:Int))) r1.2).bind fun r9=>if r9.1 = .exit 0 then (fI (0:Int) fun y10=>fI (4:Int) fun y11=>some (.tuple #[.int .i64 y10,.int .i64 y11],r9.2.2)) else if r9.1 = .ret then (Tm r9.2.1 fun n12 n13=>fI n12 fun y14=>fI n13 fun y15=>some (.tuple #[.int .i64 y14,.int .i64 y15],r9.2.2)) else none))
theorem Xy (k:Nat) (x0:Option Addr) (x1:Int) (x2:Int) (σ:Aa):Fz k x0 x1 x2 σ=NS k x0 x1 x2 σ:=by
 cases k with
 | zero=>simp only[Fz,Ab]; rfl
 | succ k=>rw[Pp,N0,NS]; simp only[Gi,Ij,UG,Bb,AU,Bf,Bc,Be,Bh,Bg,AY,Bi,Ap,A7,Bj,Ah,Ar,Aq,Ak]
noncomputable def OH (k:Nat) (x0:Option Addr) (x1:Int) (σ:Aa):Option (Value × Aa):=match k with
 | 0=>none
 | k+1=>(fP x0 fun x0=>fI x1 fun x1=>fL σ fun σ=>(DN k x0 σ).bind fun r1=>(DW r1.1).bind fun b2=>bif !b2 then (fI (0:Int) fun y3=>fI (5:Int) fun y4=>some (.tuple #[.int .i64 y3,.int .i64 y4],r1.2)) else ((bif decide (x1<(0:Int)) then some (true,r1.2) else x0.bind fun a5=>(En r1.2 a5.block (a5.off+1)).bind fun l6=>some (decide (x1≥((l6.2.1:Nat):Int)),r1.2)).bind fun r7=>bif r7.1 then (fI (0:Int) fun y8=>fI (4:Int) fun y9=>some (.tuple #[.int .i64 y8,.int .i64 y9],r7.2)) else (x0.bind fun a10=>(Js r7.2 a10.block (a10.off+2)).bind fun p11=>if (2:Int)=0 then none else (NS k p11 (Ac ((Ac (x1.tdiv (2:Int)))+(1:Int))) (1:Int) r7.2).bind fun r12=>Gr r12.1 fun n13 n14=>(bif n14 != (0:Int) then some (true,r12.2) else (Hb k x0 (Ac ((2:Int)*n13)) r12.2).bind fun r15=>(BG .i64 r15.1).bind fun n16=>some (decide (x1≥(Ac ((Ac ((2:Int)*n13))+n16))),r15.2)).bind fun r17=>bif r17.1 then (fI (0:Int) fun y18=>fI (4:Int) fun y19=>some (.tuple #[.int .i64 y18,.int .i64 y19],r17.2)) else (fI (Ac ((2:Int)*n13)) fun y20=>fI (0:Int) fun y21=>some (.tuple #[.int .i64 y20,.int .i64 y21],r17.2)))))
theorem RE (k:Nat) (x0:Option Addr) (x1:Int) (σ:Aa):FV k x0 x1 σ=OH k x0 x1 σ:=by
 cases k with
 | zero=>simp only[FV,Ab]; rfl
 | succ k=>rw[PL,Ov,OH]; simp only[Eb,F0,Xy,Bb,AU,Bf,Bc,Be,Bh,Bg,AY,Bi,Ap,A7,Bj,Ah,Ar,Aq,Ak]
noncomputable def II (k n:Nat) (p0:Option Addr) (i1:Int) (i2:Int) (i3:Int) (x10:Int) (σ:Aa):Option Aw:=match n with
 | 0=>none
 | n+1=>(fP p0 fun p0=>fI i1 fun i1=>fI i2 fun i2=>fI i3 fun i3=>fI x10 fun x10=>fL σ fun σ=>bif decide (x10<(Ac (i1+i2))) then ((OH k p0 x10 σ).bind fun r20=>Gr r20.1 fun n21 n22=>(bif n22 == (0:Int) then some (n21 != i3,r20.2) else some (false,r20.2)).bind fun r23=>bif r23.1 then (some (.ret,[.int .i64 (8:Int)],r23.2)) else (II k n p0 i1 i2 i3 (Ac (x10+(2:Int))) r23.2)) else (some (.exit 0,[],σ)))
termination_by structural n
theorem Vv (k n:Nat) (p0:Option Addr) (i1:Int) (i2:Int) (i3:Int) (x10:Int) (σ:Aa):Dc k n p0 i1 i2 i3 x10 σ=II k n p0 i1 i2 i3 x10 σ:=by
 induction n generalizing p0 i1 i2 i3 x10 σ with
 | zero=>simp only[Dc,Ab]; rfl
 | succ n ih=>rw[J9,I6,II]; simp only[RF,RE,ih,Bb,AU,Bf,Bc,Be,Bh,Bg,AY,Bi,Ap,A7,Bj,Ah,Ar,Aq,Ak]
noncomputable def OK (k:Nat) (x0:Option Addr) (x1:Int) (x2:Int) (x3:Int) (σ:Aa):Option (Value × Aa):=match k with
 | 0=>none
 | k+1=>(fP x0 fun x0=>fI x1 fun x1=>fI x2 fun x2=>fI x3 fun x3=>fL σ fun σ=>(bif decide (x1<(0:Int)) then some (true,σ) else x0.bind fun a1=>(En σ a1.block (a1.off+1)).bind fun l2=>some (decide (x1≥((l2.2.1:Nat):Int)),σ)).bind fun r3=>(bif r3.1 then some (true,r3.2) else if (2:Int)=0 then none else some ((x1.tmod (2:Int)) != (0:Int),r3.2)).bind fun r4=>bif r4.1 then (fI (1:Int) fun y5=>some (.int .i64 y5,r4.2)) else (if (64:Int)=0 then none else (bif decide (x2≤(32:Int)) then (x0.bind fun a6=>(En r4.2 a6.block (a6.off+0)).bind fun l7=>if 0≤(Ac (x1.tdiv (64:Int)))∧(Ac (x1.tdiv (64:Int)))<(l7.2.1:Nat) then l7.1.bind fun a8=>(Ai .i64 r4.2 a8.block (a8.off+(Ac (x1.tdiv (64:Int))).toNat*2+0)).bind fun n9=>(bif n9 != (1:Int) then some (true,r4.2) else if (64:Int)=0 then none else some ((Ac ((Ac ((Ac (x1+x2))-(1:Int))).tdiv (64:Int))) != (Ac (x1.tdiv (64:Int))),r4.2)).bind fun r10=>bif r10.1 then (some (.ret,[.int .i64 (5:Int)],r10.2)) else (some (.normal,[],r10.2)) else none) else (x0.bind fun a11=>(En r4.2 a11.block (a11.off+0)).bind fun l12=>if 0≤(Ac (x1.tdiv (64:Int)))∧(Ac (x1.tdiv (64:Int)))<(l12.2.1:Nat) then l12.1.bind fun a13=>(Ai .i64 r4.2 a13.block (a13.off+(Ac (x1.tdiv (64:Int))).toNat*2+0)).bind fun n14=>(bif n14 != (2:Int) then some (true,r4.2) else if (64:Int)=0 then none else some ((x1.tmod (64:Int)) != (0:Int),r4.2)).bind fun r15=>(bif r15.1 then some (true,r15.2) else (OL k x0 (Ac (x1.tdiv (64:Int))) r15.2).bind fun r16=>(BG .i64 r16.1).bind fun n17=>if (64:Int)=0 then none else some (n17 != (Ac ((Ac ((Ac (x2+(64:Int)))-(1:Int))).tdiv (64:Int))),r16.2)).bind fun r18=>bif r18.1 then (some (.ret,[.int .i64 (5:Int)],r18.2)) else (some (.normal,[],r18.2)) else none):Option Aw).bind fun r19=>if r19.1 = .normal then ((II k k x0 x1 x2 x3 x1 r19.2.2).bind fun r24=>if r24.1 = .exit 0 then (fI (0:Int) fun y25=>some (.int .i64 y25,r24.2.2)) else if r24.1 = .ret then (Uj r24.2.1 fun n26=>fI n26 fun y27=>some (.int .i64 y27,r24.2.2)) else none) else if r19.1 = .ret then (Uj r19.2.1 fun n28=>fI n28 fun y29=>some (.int .i64 y29,r19.2.2)) else none))
theorem XW (k:Nat) (x0:Option Addr) (x1:Int) (x2:Int) (x3:Int) (σ:Aa):FW k x0 x1 x2 x3 σ=OK k x0 x1 x2 x3 σ:=by
 cases k with
 | zero=>simp only[FW,Ab]; rfl
 | succ k=>rw[PN,Ox,OK]; simp only[RF,RE,Vv,Bb,AU,Bf,Bc,Be,Bh,Bg,AY,Bi,Ap,A7,Bj,Ah,Ar,Aq,Ak]
noncomputable def Ss (k:Nat) (x0_0:Int) (x0_1:Int) (x0_2:Int) (σ:Aa):Option (Value × Aa):=match k with
 | 0=>none
 | k+1=>(fI x0_0 fun x0_0=>fI x0_1 fun x0_1=>fI x0_2 fun x0_2=>fL σ fun σ=>CF σ (.cells [.int .i64 x0_0,.int .i64 x0_1,.int .i64 x0_2] 33 true) fun h1 s2=>(Ai .i64 s2 h1 (0+0)).bind fun n3=>(Ai .i64 s2 h1 (0+1)).bind fun n4=>(Ai .i64 s2 h1 (0+2)).bind fun n5=>fI (Ac ((Ac (n3+(Ac ((16:Int)*n4))))+(Ac ((4096:Int)*n5)))) fun y6=>some (.int .i64 y6,s2))
theorem bX (k:Nat) (x0_0:Int) (x0_1:Int) (x0_2:Int) (σ:Aa):Ir k x0_0 x0_1 x0_2 σ=Ss k x0_0 x0_1 x0_2 σ:=by
 cases k with
 | zero=>simp only[Ir,Ab]; rfl
 | succ k=>rw[SK,Sd,Ss]; simp only[Bb,AU,Bf,Bc,Be,Bh,Bg,AY,Bi,Ap,A7,Bj,Ah,Ar,Aq,Ak]
noncomputable def JL (k:Nat) (x0:Option Addr) (x1:Int) (σ:Aa):Option (Value × Aa):=match k with
 | 0=>none
 | k+1=>(fP x0 fun x0=>fI x1 fun x1=>fL σ fun σ=>(G7 k x0 σ).bind fun r1=>(DW r1.1).bind fun b2=>(bif b2 then some (decide (x1≥(0:Int)),r1.2) else some (false,r1.2)).bind fun r3=>(bif r3.1 then x0.bind fun a4=>(Ai .i64 r3.2 a4.block (a4.off+0)).bind fun n5=>some (decide (x1<n5),r3.2) else some (false,r3.2)).bind fun r6=>fB r6.1 fun y7=>some (.bool y7,r6.2))
theorem Qc (k:Nat) (x0:Option Addr) (x1:Int) (σ:Aa):D6 k x0 x1 σ=JL k x0 x1 σ:=by
 cases k with
 | zero=>simp only[D6,Ab]; rfl
 | succ k=>rw[Of,Mx,JL]; simp only[Gi,Bb,AU,Bf,Bc,Be,Bh,Bg,AY,Bi,Ap,A7,Bj,Ah,Ar,Aq,Ak]
noncomputable def MI (k:Nat) (x0:Option Addr) (x1:Int) (σ:Aa):Option (Value × Aa):=match k with
 | 0=>none
 | k+1=>(fP x0 fun x0=>fI x1 fun x1=>fL σ fun σ=>(bif decide (x1≥(0:Int)) then (Ii k x0 σ).bind fun r1=>(BG .i64 r1.1).bind fun n2=>some (decide (x1≤n2),r1.2) else some (false,σ)).bind fun r3=>fB r3.1 fun y4=>some (.bool y4,r3.2))
theorem Wr (k:Nat) (x0:Option Addr) (x1:Int) (σ:Aa):EU k x0 x1 σ=MI k x0 x1 σ:=by
 cases k with
 | zero=>simp only[EU,Ab]; rfl
 | succ k=>rw[Og,My,MI]; simp only[MK,Bb,AU,Bf,Bc,Be,Bh,Bg,AY,Bi,Ap,A7,Bj,Ah,Ar,Aq,Ak]
noncomputable def Km (k:Nat) (x0:Int) (c0:Option Addr) (σ:Aa):Option (Value × Aa):=match k with
 | 0=>none
 | k+1=>(fI x0 fun x0=>fP c0 fun c0=>fL σ fun σ=>c0.bind fun a1=>(Js σ a1.block a1.off).bind fun p2=>(MI k p2 x0 σ).bind fun r3=>(DW r3.1).bind fun b4=>fB (!b4) fun y5=>some (.bool y5,r3.2))
theorem TZ (k:Nat) (x0:Int) (c0:Option Addr) (σ:Aa):C1 k x0 c0 σ=Km k x0 c0 σ:=by
 cases k with
 | zero=>simp only[C1,Ab]; rfl
 | succ k=>rw[LX,Kf,Km]; simp only[Wr,Bb,AU,Bf,Bc,Be,Bh,Bg,AY,Bi,Ap,A7,Bj,Ah,Ar,Aq,Ak]
theorem Tj (k:Nat) (x0:Int) (c0:Option Addr) (σ:Aa):fn P (XK Kn.b) H k 179 [.int .i64 x0,.pointer c0] σ=C1 k x0 c0 σ:=by
 simp only[C1,Ab]
noncomputable def RU (k:Nat) (n:FuncId) (l:List Value) (σ:Aa):Option (Value × Aa):=
 if n=179 then (match l with
  | [.int .i64 y1,.pointer y2]=>Km k y1 y2 σ
  | l=>fn P (XK Kn.b) H k 179 l σ) else
 fn P (XK Kn.b) H k n l σ
theorem gq (k:Nat) (n:FuncId) (l:List Value) (σ:Aa):fn P (XK Kn.b) H k n l σ=RU k n l σ:=by
 unfold RU
 split
 ·rename_i hn; subst hn
  split
  ·exact (Tj k _ _ σ).trans (TZ k _ _ σ)
  ·rfl
 rfl
noncomputable def VI (k:Nat) (f:Value) (args:List Value) (σ:Aa):Option (Value × Aa):=match f with
 | .func (.func n) first cap=>RU k n (first.toList++args++cap.toList) σ
 | .func (.method nm) first _=>(match first.toList++args with
   | .iface t v::rest=>(TJ P t nm).bind fun n=>RU k n (v::rest) σ
   | _=>none)
 | _=>none
theorem XI (k:Nat) (f:Value) (args:List Value) (σ:Aa):MV k f args σ=VI k f args σ:=by
 simp only[MV,Ab]
 unfold OS VI
 simp only[gq]
 rfl
noncomputable def FP (k n:Nat) (p0:Option Addr) (c1:Nat) (c2:Nat) (v3:Value) (i4:Int) (x8:Int) (σ:Aa):Option Aw:=match n with
 | 0=>none
 | n+1=>(fP p0 fun p0=>fN c1 fun c1=>fN c2 fun c2=>fI i4 fun i4=>fI x8 fun x8=>fL σ fun σ=>bif decide (x8<i4) then (if 0≤x8∧x8<(c1:Nat) then p0.bind fun a1=>(Ai .i64 σ a1.block (a1.off+x8.toNat*1)).bind fun n2=>(VI k v3 [.int .i64 n2] σ).bind fun r3=>(DW r3.1).bind fun b4=>bif b4 then (some (.ret,[.int .i64 x8],r3.2)) else (FP k n p0 c1 c2 v3 i4 (Ac (x8+(1:Int))) r3.2) else none) else (some (.exit 0,[],σ)))
termination_by structural n
theorem Rh (k n:Nat) (p0:Option Addr) (c1:Nat) (c2:Nat) (v3:Value) (i4:Int) (x8:Int) (σ:Aa):CC k n p0 c1 c2 v3 i4 x8 σ=FP k n p0 c1 c2 v3 i4 x8 σ:=by
 induction n generalizing p0 c1 c2 v3 i4 x8 σ with
 | zero=>simp only[CC,Ab]; rfl
 | succ n ih=>rw[GI,FG,FP]; simp only[XI,ih,Bb,AU,Bf,Bc,Be,Bh,Bg,AY,Bi,Ap,A7,Bj,Ah,Ar,Aq,Ak]
noncomputable def JM (k:Nat) (x0:Option Addr × Nat × Nat) (x1:Value) (σ:Aa):Option (Value × Aa):=match k with
 | 0=>none
 | k+1=>(fS x0 fun x0=>fL σ fun σ=>(FP k k x0.1 x0.2.1 x0.2.2 x1 ((x0.2.1:Nat):Int) (0:Int) σ).bind fun r5=>if r5.1 = .exit 0 then (fI (-1:Int) fun y6=>some (.int .i64 y6,r5.2.2)) else if r5.1 = .ret then (Uj r5.2.1 fun n7=>fI n7 fun y8=>some (.int .i64 y8,r5.2.2)) else none)
theorem Tk (k:Nat) (x0:Option Addr × Nat × Nat) (x1:Value) (σ:Aa):E4 k x0 x1 σ=JM k x0 x1 σ:=by
 cases k with
 | zero=>simp only[E4,Ab]; rfl
 | succ k=>rw[Lz,J6,JM]; simp only[XI,Rh,Bb,AU,Bf,Bc,Be,Bh,Bg,AY,Bi,Ap,A7,Bj,Ah,Ar,Aq,Ak]
noncomputable def H7 (k:Nat) (x0:Option Addr × Nat × Nat) (x1:Value) (σ:Aa):Option (Value × Aa):=match k with
 | 0=>none
 | k+1=>(fS x0 fun x0=>fL σ fun σ=>(JM k (x0.1,x0.2.1,x0.2.2) (x1) σ).bind fun r1=>(BG .i64 r1.1).bind fun n2=>fB (decide (n2≥(0:Int))) fun y3=>some (.bool y3,r1.2))
theorem Rg (k:Nat) (x0:Option Addr × Nat × Nat) (x1:Value) (σ:Aa):Dw k x0 x1 σ=H7 k x0 x1 σ:=by
 cases k with
 | zero=>simp only[Dw,Ab]; rfl
 | succ k=>rw[JP,H5,H7]; simp only[Tk,Bb,AU,Bf,Bc,Be,Bh,Bg,AY,Bi,Ap,A7,Bj,Ah,Ar,Aq,Ak]
noncomputable def MH (k:Nat) (x0:Option Addr) (x1:Int) (x2:Option Addr × Nat × Nat) (σ:Aa):Option (Value × Aa):=match k with
 | 0=>none
 | k+1=>(fP x0 fun x0=>fI x1 fun x1=>fS x2 fun x2=>fL σ fun σ=>CF σ (.cells [.pointer x0] 92 true) fun h1 s2=>(Js s2 h1 0).bind fun p3=>(G7 k p3 s2).bind fun r4=>(DW r4.1).bind fun b5=>bif !b5 then (fI (5:Int) fun y6=>some (.int .i64 y6,r4.2)) else ((Js r4.2 h1 0).bind fun p7=>(JL k p7 x1 r4.2).bind fun r8=>(DW r8.1).bind fun b9=>(bif !b9 then some (true,r8.2) else (H7 k (x2.1,x2.2.1,x2.2.2) (.func (.func 179) #[] #[.pointer (some ⟨h1,0,none⟩)]) r8.2).bind fun r10=>(DW r10.1).bind fun b11=>some (b11,r10.2)).bind fun r12=>bif r12.1 then (fI (1:Int) fun y13=>some (.int .i64 y13,r12.2)) else (fI (0:Int) fun y14=>some (.int .i64 y14,r12.2))))
theorem Wq (k:Nat) (x0:Option Addr) (x1:Int) (x2:Option Addr × Nat × Nat) (σ:Aa):ET k x0 x1 x2 σ=MH k x0 x1 x2 σ:=by
 cases k with
 | zero=>simp only[ET,Ab]; rfl
 | succ k=>rw[Oe,Mw,MH]; simp only[Gi,Qc,Rg,Bb,AU,Bf,Bc,Be,Bh,Bg,AY,Bi,Ap,A7,Bj,Ah,Ar,Aq,Ak]
noncomputable def OO (k:Nat) (x0:Option Addr) (x1:Int) (x2:Int) (σ:Aa):Option (Value × Aa):=match k with
 | 0=>none
 | k+1=>(fP x0 fun x0=>fI x1 fun x1=>fI x2 fun x2=>fL σ fun σ=>x0.bind fun a1=>(Ai .i64 σ a1.block (a1.off+1)).bind fun n2=>x0.bind fun a3=>(En σ a3.block (a3.off+2)).bind fun l4=>if (64:Int)=0 then none else if 0≤(Ac ((Ac (x1*n2)).tdiv (64:Int)))∧(Ac ((Ac (x1*n2)).tdiv (64:Int)))<(l4.2.1:Nat) then l4.1.bind fun a5=>(Ai .u64 σ a5.block (a5.off+(Ac ((Ac (x1*n2)).tdiv (64:Int))).toNat*1)).bind fun n6=>(Ii k x0 σ).bind fun r7=>(BG .i64 r7.1).bind fun n8=>if (64:Int)=0 then none else if ((Ac (x1*n2)).tmod (64:Int))<0 then none else if (64:Int)=0 then none else if ((Ac (x1*n2)).tmod (64:Int))<0 then none else Wt r7.2 a5.block (a5.off+(Ac ((Ac (x1*n2)).tdiv (64:Int))).toNat*1) (.int .u64 (u64 ((BitVec.ofInt 64 (u64 ((BitVec.ofInt 64 n6 &&& ~~~ (BitVec.ofInt 64 (u64 ((u64 (n8))*2 ^ (min ((Ac (x1*n2)).tmod (64:Int)).toNat 64))))).toNat)) ||| BitVec.ofInt 64 (u64 ((u64 (x2))*2 ^ (min ((Ac (x1*n2)).tmod (64:Int)).toNat 64)))).toNat))) fun s9=>some (.tuple #[],s9) else none)
theorem Yt (k:Nat) (x0:Option Addr) (x1:Int) (x2:Int) (σ:Aa):Gd k x0 x1 x2 σ=OO k x0 x1 x2 σ:=by
 cases k with
 | zero=>simp only[Gd,Ab]; rfl
 | succ k=>rw[PY,O8,OO]; simp only[MK,Bb,AU,Bf,Bc,Be,Bh,Bg,AY,Bi,Ap,A7,Bj,Ah,Ar,Aq,Ak]
noncomputable def Jm (k:Nat) (x0:Option Addr) (x1:Int) (x2:Int) (σ:Aa):Option (Value × Aa):=match k with
 | 0=>none
 | k+1=>(fP x0 fun x0=>fI x1 fun x1=>fI x2 fun x2=>fL σ fun σ=>CF σ (.cells [.int .i64 x2] 3 true) fun h1 s2=>(MH k x0 x1 (some ⟨h1,0,none⟩,1,1) s2).bind fun r3=>(BG .i64 r3.1).bind fun n4=>bif n4 != (0:Int) then (fI n4 fun y5=>some (.int .i64 y5,r3.2)) else ((OO k x0 x1 x2 r3.2).bind fun r6=>UK r6.1 (fI (0:Int) fun y7=>some (.int .i64 y7,r6.2))))
theorem RX (k:Nat) (x0:Option Addr) (x1:Int) (x2:Int) (σ:Aa):CE k x0 x1 x2 σ=Jm k x0 x1 x2 σ:=by
 cases k with
 | zero=>simp only[CE,Ab]; rfl
 | succ k=>rw[PW,O6,Jm]; simp only[Wq,Yt,Bb,AU,Bf,Bc,Be,Bh,Bg,AY,Bi,Ap,A7,Bj,Ah,Ar,Aq,Ak]
noncomputable def Kw (k:Nat) (x0:Option Addr) (x1:Int) (x2_0:Int) (x2_1:Int) (x2_2:Int) (σ:Aa):Option (Value × Aa):=match k with
 | 0=>none
 | k+1=>(fP x0 fun x0=>fI x1 fun x1=>fI x2_0 fun x2_0=>fI x2_1 fun x2_1=>fI x2_2 fun x2_2=>fL σ fun σ=>CF σ (.cells [.int .i64 x2_0,.int .i64 x2_1,.int .i64 x2_2] 33 true) fun h1 s2=>(DN k x0 s2).bind fun r3=>(DW r3.1).bind fun b4=>bif !b4 then (fI (0:Int) fun y5=>fI (5:Int) fun y6=>some (.tuple #[.int .i64 y5,.int .i64 y6],r3.2)) else ((Ai .i64 r3.2 h1 0).bind fun n7=>(Ai .i64 r3.2 h1 (0+1)).bind fun n8=>(Ai .i64 r3.2 h1 (0+1+1)).bind fun n9=>(NQ k n7 n8 n9 r3.2).bind fun r10=>(DW r10.1).bind fun b11=>bif !b11 then (fI (0:Int) fun y12=>fI (2:Int) fun y13=>some (.tuple #[.int .i64 y12,.int .i64 y13],r10.2)) else ((Ai .i64 r10.2 h1 0).bind fun n14=>(Ai .i64 r10.2 h1 (0+1)).bind fun n15=>(Ai .i64 r10.2 h1 (0+1+1)).bind fun n16=>(NR k n14 n15 n16 r10.2).bind fun r17=>(BG .i64 r17.1).bind fun n18=>(OK k x0 x1 n18 (-1:Int) r17.2).bind fun r19=>(BG .i64 r19.1).bind fun n20=>bif n20 != (0:Int) then (fI (0:Int) fun y21=>fI n20 fun y22=>some (.tuple #[.int .i64 y21,.int .i64 y22],r19.2)) else (x0.bind fun a23=>(Ai .i64 r19.2 a23.block (a23.off+6)).bind fun n24=>x0.bind fun a25=>Wt r19.2 a25.block (a25.off+6) (.int .i64 (Ac (n24+(1:Int)))) fun s26=>x0.bind fun a27=>(En s26 a27.block (a27.off+1)).bind fun l28=>x0.bind fun a29=>(En s26 a29.block (a29.off+1)).bind fun l30=>x0.bind fun a31=>(Ai .i64 s26 a31.block (a31.off+6)).bind fun n32=>(Ai .i64 s26 h1 0).bind fun n33=>(Ai .i64 s26 h1 (0+1)).bind fun n34=>(Ai .i64 s26 h1 (0+1+1)).bind fun n35=>(Ss k n33 n34 n35 s26).bind fun r36=>(BG .i64 r36.1).bind fun n37=>if 0≤x1∧x1<(l28.2.1:Nat) then l28.1.bind fun a38=>Wt r36.2 a38.block (a38.off+x1.toNat*1) (.int .i64 n32) fun s39=>if 0≤(Ac (x1+(1:Int)))∧(Ac (x1+(1:Int)))<(l30.2.1:Nat) then l30.1.bind fun a40=>Wt s39 a40.block (a40.off+(Ac (x1+(1:Int))).toNat*1) (.int .i64 n37) fun s41=>x0.bind fun a42=>(Js s41 a42.block (a42.off+2)).bind fun p43=>if (2:Int)=0 then none else (Jm k p43 (Ac (x1.tdiv (2:Int))) (1:Int) s41).bind fun r44=>(BG .i64 r44.1).bind fun n45=>x0.bind fun a46=>(nk r44.2 a46.block (a46.off+4)).bind fun m47=>x0.bind fun a48=>(Ai .i64 r44.2 a48.block (a48.off+6)).bind fun n49=>m47.bind fun h51=>(SX r44.2 h51).bind fun es50=>pQ r44.2 h51 (OC n49 (.int .i64 x1) es50) fun s52=>x0.bind fun a53=>(Ai .i64 s52 a53.block (a53.off+6)).bind fun n54=>fI n54 fun y55=>fI (0:Int) fun y56=>some (.tuple #[.int .i64 y55,.int .i64 y56],s52) else none else none))))
theorem QQ (k:Nat) (x0:Option Addr) (x1:Int) (x2_0:Int) (x2_1:Int) (x2_2:Int) (σ:Aa):Cp k x0 x1 x2_0 x2_1 x2_2 σ=Kw k x0 x1 x2_0 x2_1 x2_2 σ:=by
 cases k with
 | zero=>simp only[Cp,Ab]; rfl
 | succ k=>rw[Pg,Nr,Kw]; simp only[Sn,Sl,Eb,XW,bX,RX,Bb,AU,Bf,Bc,Be,Bh,Bg,AY,Bi,Ap,A7,Bj,Ah,Ar,Aq,Ak]
noncomputable def JJ (k:Nat) (x0:Option Addr) (σ:Aa):Option (Value × Aa):=match k with
 | 0=>none
 | k+1=>(fP x0 fun x0=>fL σ fun σ=>(SO P 42 (.pointer x0) (.pointer none)).bind fun e1=>(bif !e1 then x0.bind fun a2=>(Js σ a2.block (a2.off+0)).bind fun p3=>(SO P 25 (.pointer p3) (.pointer none)).bind fun e4=>some (!e4,σ) else some (false,σ)).bind fun r5=>fB r5.1 fun y6=>some (.bool y6,r5.2))
theorem SB (k:Nat) (x0:Option Addr) (σ:Aa):Ba k x0 σ=JJ k x0 σ:=by
 cases k with
 | zero=>simp only[Ba,Ab]; rfl
 | succ k=>rw[Lu,J1,JJ]; simp only[Bb,AU,Bf,Bc,Be,Bh,Bg,AY,Bi,Ap,A7,Bj,Ah,Ar,Aq,Ak]
noncomputable def Ll (k:Nat)  (σ:Aa):Option (Value × Aa):=match k with
 | 0=>none
 | k+1=>(fL σ fun σ=>CF σ (.cells [.iface 150 (.agg #[]),.iface 151 (.agg #[]),.iface 152 (.agg #[]),.iface 153 (.agg #[]),.iface 154 (.agg #[])] 116 true) fun h1 s2=>some (.slice (some ⟨h1,0,none⟩) 5 5,s2))
theorem Ru (k:Nat)  (σ:Aa):DK k  σ=Ll k  σ:=by
 cases k with
 | zero=>simp only[DK,Ab]; rfl
 | succ k=>rw[PK,Ou,Ll]; simp only[Bb,AU,Bf,Bc,Be,Bh,Bg,AY,Bi,Ap,A7,Bj,Ah,Ar,Aq,Ak]
noncomputable def TW (k:Nat) (x0:Int) (σ:Aa):Option (Value × Aa):=match k with
 | 0=>none
 | k+1=>(fI x0 fun x0=>fL σ fun σ=>(bif decide (x0≥(0:Int)) then some (decide (x0<(8:Int)),σ) else some (false,σ)).bind fun r1=>fB r1.1 fun y2=>some (.bool y2,r1.2))
theorem WD (k:Nat) (x0:Int) (σ:Aa):GP k x0 σ=TW k x0 σ:=by
 cases k with
 | zero=>simp only[GP,Ab]; rfl
 | succ k=>rw[Us,T3,TW]; simp only[Bb,AU,Bf,Bc,Be,Bh,Bg,AY,Bi,Ap,A7,Bj,Ah,Ar,Aq,Ak]
noncomputable def Kz (k:Nat) (x0:Option Addr) (x1:Int) (σ:Aa):Option (Value × Aa):=match k with
 | 0=>none
 | k+1=>(fP x0 fun x0=>fI x1 fun x1=>fL σ fun σ=>(DN k x0 σ).bind fun r1=>(DW r1.1).bind fun b2=>(bif b2 then some (decide (x1≥(1:Int)),r1.2) else some (false,r1.2)).bind fun r3=>(bif r3.1 then x0.bind fun a4=>(En r3.2 a4.block (a4.off+0)).bind fun l5=>some (decide (x1<((l5.2.1:Nat):Int)),r3.2) else some (false,r3.2)).bind fun r6=>fB r6.1 fun y7=>some (.bool y7,r6.2))
theorem M7 (k:Nat) (x0:Option Addr) (x1:Int) (σ:Aa):CI k x0 x1 σ=Kz k x0 x1 σ:=by
 cases k with
 | zero=>simp only[CI,Ab]; rfl
 | succ k=>rw[Pk,Nu,Kz]; simp only[Eb,Bb,AU,Bf,Bc,Be,Bh,Bg,AY,Bi,Ap,A7,Bj,Ah,Ar,Aq,Ak]
noncomputable def Ld (k:Nat) (x0_0:Int) (x0_1:Int) (σ:Aa):Option (Value × Aa):=match k with
 | 0=>none
 | k+1=>(fI x0_0 fun x0_0=>fI x0_1 fun x0_1=>fL σ fun σ=>CF σ (.cells [.int .i64 x0_0,.int .i64 x0_1] 104 true) fun h1 s2=>(Ai .i64 s2 h1 0).bind fun n3=>(Ai .i64 s2 h1 (0+1)).bind fun n4=>(SO P 104 (.agg #[.int .i64 n3,.int .i64 n4]) (.agg #[.int .i64 (0:Int),.int .i64 (0:Int)])).bind fun e5=>fB (!e5) fun y6=>some (.bool y6,s2))
theorem UD (k:Nat) (x0_0:Int) (x0_1:Int) (σ:Aa):CH k x0_0 x0_1 σ=Ld k x0_0 x0_1 σ:=by
 cases k with
 | zero=>simp only[CH,Ab]; rfl
 | succ k=>rw[MX,KD,Ld]; simp only[Bb,AU,Bf,Bc,Be,Bh,Bg,AY,Bi,Ap,A7,Bj,Ah,Ar,Aq,Ak]
theorem TF (k:Nat) (x0_0:Int) (x0_1:Int) (σ:Aa):fn P (XK Kn.b) H k 166 [.agg #[.int .i64 x0_0,.int .i64 x0_1]] σ=CH k x0_0 x0_1 σ:=by
 simp only[CH,Ab]
noncomputable def Ql (k:Nat) (n:FuncId) (l:List Value) (σ:Aa):Option (Value × Aa):=
 if n=166 then (match l with
  | [.agg ⟨[.int .i64 y1,.int .i64 y2]⟩]=>Ld k y1 y2 σ
  | l=>fn P (XK Kn.b) H k 166 l σ) else
 fn P (XK Kn.b) H k n l σ
theorem dB (k:Nat) (n:FuncId) (l:List Value) (σ:Aa):fn P (XK Kn.b) H k n l σ=Ql k n l σ:=by
 unfold Ql
 split
 ·rename_i hn; subst hn
  split
  ·exact (TF k _ _ σ).trans (UD k _ _ σ)
  ·rfl
 rfl
noncomputable def TS (k:Nat) (f:Value) (args:List Value) (σ:Aa):Option (Value × Aa):=match f with
 | .func (.func n) first cap=>Ql k n (first.toList++args++cap.toList) σ
 | .func (.method nm) first _=>(match first.toList++args with
   | .iface t v::rest=>(TJ P t nm).bind fun n=>Ql k n (v::rest) σ
   | _=>none)
 | _=>none
theorem WB (k:Nat) (f:Value) (args:List Value) (σ:Aa):HN k f args σ=TS k f args σ:=by
 simp only[HN,Ab]
 unfold OS TS
 simp only[dB]
 rfl
noncomputable def Ee (k n:Nat) (p0:Option Addr) (c1:Nat) (c2:Nat) (v3:Value) (i4:Int) (x8:Int) (σ:Aa):Option Aw:=match n with
 | 0=>none
 | n+1=>(fP p0 fun p0=>fN c1 fun c1=>fN c2 fun c2=>fI i4 fun i4=>fI x8 fun x8=>fL σ fun σ=>bif decide (x8<i4) then (if 0≤x8∧x8<(c1:Nat) then p0.bind fun a1=>(Ai .i64 σ a1.block (a1.off+x8.toNat*2)).bind fun n2=>(Ai .i64 σ a1.block (a1.off+x8.toNat*2+1)).bind fun n3=>(TS k v3 [.agg #[.int .i64 n2,.int .i64 n3]] σ).bind fun r4=>(DW r4.1).bind fun b5=>bif b5 then (some (.ret,[.int .i64 x8],r4.2)) else (Ee k n p0 c1 c2 v3 i4 (Ac (x8+(1:Int))) r4.2) else none) else (some (.exit 0,[],σ)))
termination_by structural n
theorem Nm (k n:Nat) (p0:Option Addr) (c1:Nat) (c2:Nat) (v3:Value) (i4:Int) (x8:Int) (σ:Aa):Bp k n p0 c1 c2 v3 i4 x8 σ=Ee k n p0 c1 c2 v3 i4 x8 σ:=by
 induction n generalizing p0 c1 c2 v3 i4 x8 σ with
 | zero=>simp only[Bp,Ab]; rfl
 | succ n ih=>rw[EN,DX,Ee]; simp only[WB,ih,Bb,AU,Bf,Bc,Be,Bh,Bg,AY,Bi,Ap,A7,Bj,Ah,Ar,Aq,Ak]
noncomputable def G1 (k:Nat) (x0:Option Addr × Nat × Nat) (x1:Value) (σ:Aa):Option (Value × Aa):=match k with
 | 0=>none
 | k+1=>(fS x0 fun x0=>fL σ fun σ=>(Ee k k x0.1 x0.2.1 x0.2.2 x1 ((x0.2.1:Nat):Int) (0:Int) σ).bind fun r6=>if r6.1 = .exit 0 then (fI (-1:Int) fun y7=>some (.int .i64 y7,r6.2.2)) else if r6.1 = .ret then (Uj r6.2.1 fun n8=>fI n8 fun y9=>some (.int .i64 y9,r6.2.2)) else none)
theorem OP (k:Nat) (x0:Option Addr × Nat × Nat) (x1:Value) (σ:Aa):C6 k x0 x1 σ=G1 k x0 x1 σ:=by
 cases k with
 | zero=>simp only[C6,Ab]; rfl
 | succ k=>rw[HV,Gv,G1]; simp only[WB,Nm,Bb,AU,Bf,Bc,Be,Bh,Bg,AY,Bi,Ap,A7,Bj,Ah,Ar,Aq,Ak]
noncomputable def F4 (k:Nat) (x0:Option Addr × Nat × Nat) (x1:Value) (σ:Aa):Option (Value × Aa):=match k with
 | 0=>none
 | k+1=>(fS x0 fun x0=>fL σ fun σ=>(G1 k (x0.1,x0.2.1,x0.2.2) (x1) σ).bind fun r1=>(BG .i64 r1.1).bind fun n2=>fB (decide (n2≥(0:Int))) fun y3=>some (.bool y3,r1.2))
theorem Hy (k:Nat) (x0:Option Addr × Nat × Nat) (x1:Value) (σ:Aa):BX k x0 x1 σ=F4 k x0 x1 σ:=by
 cases k with
 | zero=>simp only[BX,Ab]; rfl
 | succ k=>rw[GX,Ft,F4]; simp only[OP,Bb,AU,Bf,Bc,Be,Bh,Bg,AY,Bi,Ap,A7,Bj,Ah,Ar,Aq,Ak]
noncomputable def Ie (k n:Nat) (p0:Option Addr) (i1:Int) (h2:Nat) (i3:Int) (x54:Int) (σ:Aa):Option Aw:=match n with
 | 0=>none
 | n+1=>(fP p0 fun p0=>fI i1 fun i1=>fN h2 fun h2=>fI i3 fun i3=>fI x54 fun x54=>fL σ fun σ=>bif decide (x54<i3) then (p0.bind fun a25=>(En σ a25.block (a25.off+0)).bind fun l26=>(Ai .i64 σ h2 0).bind fun n27=>(Ai .i64 σ h2 (0+1)).bind fun n28=>if 0≤(Ac (i1+x54))∧(Ac (i1+x54))<(l26.2.1:Nat) then l26.1.bind fun a29=>Ug σ a29.block (a29.off+(Ac (i1+x54)).toNat*2) [.int .i64 n27,.int .i64 n28] fun s30=>Ie k n p0 i1 h2 i3 (Ac (x54+(1:Int))) s30 else none) else (some (.exit 1,[],σ)))
termination_by structural n
theorem UE (k n:Nat) (p0:Option Addr) (i1:Int) (h2:Nat) (i3:Int) (x54:Int) (σ:Aa):Dq k n p0 i1 h2 i3 x54 σ=Ie k n p0 i1 h2 i3 x54 σ:=by
 induction n generalizing p0 i1 h2 i3 x54 σ with
 | zero=>simp only[Dq,Ab]; rfl
 | succ n ih=>rw[Jc,HJ,Ie]; simp only[Eb,WD,M7,Hy,ih,Bb,AU,Bf,Bc,Be,Bh,Bg,AY,Bi,Ap,A7,Bj,Ah,Ar,Aq,Ak]
noncomputable def Ky (k:Nat) (x0:Option Addr) (x1:Int) (x2:Int) (x3_0:Int) (x3_1:Int) (x4_0:Int) (x4_1:Int) (σ:Aa):Option (Value × Aa):=match k with
 | 0=>none
 | k+1=>(fP x0 fun x0=>fI x1 fun x1=>fI x2 fun x2=>fI x3_0 fun x3_0=>fI x3_1 fun x3_1=>fI x4_0 fun x4_0=>fI x4_1 fun x4_1=>fL σ fun σ=>CF σ (.cells [.int .i64 x3_0,.int .i64 x3_1] 104 true) fun h1 s2=>CF s2 (.cells [.int .i64 x4_0,.int .i64 x4_1] 104 true) fun h3 s4=>(DN k x0 s4).bind fun r5=>(DW r5.1).bind fun b6=>bif !b6 then (fI (5:Int) fun y7=>some (.int .i64 y7,r5.2)) else ((Kz k x0 x1 r5.2).bind fun r8=>(DW r8.1).bind fun b9=>(bif !b9 then some (true,r8.2) else some (decide (x2<(1:Int)),r8.2)).bind fun r10=>(bif r10.1 then some (true,r10.2) else x0.bind fun a11=>(En r10.2 a11.block (a11.off+0)).bind fun l12=>some (decide (x2>(Ac (((l12.2.1:Nat):Int)-x1))),r10.2)).bind fun r13=>(bif r13.1 then some (true,r13.2) else (Ai .i64 r13.2 h1 (0+1)).bind fun n14=>(TW k n14 r13.2).bind fun r15=>(DW r15.1).bind fun b16=>some (!b16,r15.2)).bind fun r17=>bif r17.1 then (fI (1:Int) fun y18=>some (.int .i64 y18,r17.2)) else (x0.bind fun a19=>(En r17.2 a19.block (a19.off+0)).bind fun l20=>(Le 104 2 (l20.1,l20.2.1,l20.2.2) (some (.int .i64 x1)) (some (.int .i64 (Ac (x1+x2)))) none r17.2).bind fun l21=>(F4 k (l21.1,l21.2.1,l21.2.2) (.func (.func 166) #[] #[]) r17.2).bind fun r22=>(DW r22.1).bind fun b23=>bif b23 then (fI (8:Int) fun y24=>some (.int .i64 y24,r22.2)) else ((Ie k k x0 x1 h3 x2 (0:Int) r22.2).bind fun r31=>if r31.1 = .exit 1 then (x0.bind fun a32=>(En r31.2.2 a32.block (a32.off+0)).bind fun l33=>(Ai .i64 r31.2.2 h1 0).bind fun n34=>(Ai .i64 r31.2.2 h1 (0+1)).bind fun n35=>if 0≤x1∧x1<(l33.2.1:Nat) then l33.1.bind fun a36=>Ug r31.2.2 a36.block (a36.off+x1.toNat*2) [.int .i64 n34,.int .i64 n35] fun s37=>fI (0:Int) fun y38=>some (.int .i64 y38,s37) else none) else none))))
theorem QS (k:Nat) (x0:Option Addr) (x1:Int) (x2:Int) (x3_0:Int) (x3_1:Int) (x4_0:Int) (x4_1:Int) (σ:Aa):Ea k x0 x1 x2 x3_0 x3_1 x4_0 x4_1 σ=Ky k x0 x1 x2 x3_0 x3_1 x4_0 x4_1 σ:=by
 cases k with
 | zero=>simp only[Ea,Ab]; rfl
 | succ k=>rw[Pj,Nt,Ky]; simp only[Eb,WD,M7,Hy,UE,Bb,AU,Bf,Bc,Be,Bh,Bg,AY,Bi,Ap,A7,Bj,Ah,Ar,Aq,Ak]
noncomputable def JK (k:Nat) (x0:Option Addr) (x1:Int) (x2:Int) (x3:Int) (σ:Aa):Option (Value × Aa):=match k with
 | 0=>none
 | k+1=>(fP x0 fun x0=>fI x1 fun x1=>fI x2 fun x2=>fI x3 fun x3=>fL σ fun σ=>(Ky k x0 x1 x2 (2:Int) x3 (3:Int) x3 σ).bind fun r1=>(BG .i64 r1.1).bind fun n2=>fI n2 fun y3=>some (.int .i64 y3,r1.2))
theorem Nc (k:Nat) (x0:Option Addr) (x1:Int) (x2:Int) (x3:Int) (σ:Aa):D0 k x0 x1 x2 x3 σ=JK k x0 x1 x2 x3 σ:=by
 cases k with
 | zero=>simp only[D0,Ab]; rfl
 | succ k=>rw[Lv,J2,JK]; simp only[QS,Bb,AU,Bf,Bc,Be,Bh,Bg,AY,Bi,Ap,A7,Bj,Ah,Ar,Aq,Ak]
noncomputable def F3 (k n:Nat) (p0:Option Addr) (i1:Int) (x7:Int) (σ:Aa):Option Aw:=match n with
 | 0=>none
 | n+1=>(fP p0 fun p0=>fI i1 fun i1=>fI x7 fun x7=>fL σ fun σ=>p0.bind fun a1=>(Js σ a1.block (a1.off+0)).bind fun p2=>(Eu k p2 σ).bind fun r3=>(BG .i64 r3.1).bind fun n4=>bif decide ((Ac (x7+i1))≤n4) then (p0.bind fun a5=>(Js r3.2 a5.block (a5.off+0)).bind fun p6=>p0.bind fun a7=>(Ai .i64 r3.2 a7.block (a7.off+1)).bind fun n8=>(JK k p6 x7 i1 n8 r3.2).bind fun r9=>(BG .i64 r9.1).bind fun n10=>bif n10 == (0:Int) then (some (.ret,[.int .i64 (Ac (x7*(64:Int))),.bool true],r9.2)) else (F3 k n p0 i1 (Ac (x7+(1:Int))) r9.2)) else (some (.exit 0,[],r3.2)))
termination_by structural n
theorem Qh (k n:Nat) (p0:Option Addr) (i1:Int) (x7:Int) (σ:Aa):BR k n p0 i1 x7 σ=F3 k n p0 i1 x7 σ:=by
 induction n generalizing p0 i1 x7 σ with
 | zero=>simp only[BR,Ab]; rfl
 | succ n ih=>rw[Ju,Hf,F3]; simp only[Dd,Nc,ih,Bb,AU,Bf,Bc,Be,Bh,Bg,AY,Bi,Ap,A7,Bj,Ah,Ar,Aq,Ak]
noncomputable def Jl (k:Nat) (x0:Option Addr) (x1:Int) (σ:Aa):Option (Value × Aa):=match k with
 | 0=>none
 | k+1=>(fP x0 fun x0=>fI x1 fun x1=>fL σ fun σ=>if (64:Int)=0 then none else (F3 k k x0 (Ac ((Ac ((Ac (x1+(64:Int)))-(1:Int))).tdiv (64:Int))) (1:Int) σ).bind fun r11=>if r11.1 = .exit 0 then (fI (0:Int) fun y12=>fB false fun y13=>some (.tuple #[.int .i64 y12,.bool y13],r11.2.2)) else if r11.1 = .ret then (dK r11.2.1 fun n14 b15=>fI n14 fun y16=>fB b15 fun y17=>some (.tuple #[.int .i64 y16,.bool y17],r11.2.2)) else none)
theorem Sc (k:Nat) (x0:Option Addr) (x1:Int) (σ:Aa):BU k x0 x1 σ=Jl k x0 x1 σ:=by
 cases k with
 | zero=>simp only[BU,Ab]; rfl
 | succ k=>rw[KN,IU,Jl]; simp only[Dd,Nc,Qh,Bb,AU,Bf,Bc,Be,Bh,Bg,AY,Bi,Ap,A7,Bj,Ah,Ar,Aq,Ak]
theorem Rk (k:Nat) (x0:Option Addr) (x1:Int) (σ:Aa):fn P (XK Kn.b) H k 99 [.pointer x0,.int .i64 x1] σ=BU k x0 x1 σ:=by
 simp only[BU,Ab]
noncomputable def Kv (k:Nat) (x0:Option Addr) (x1:Int) (x2:Int) (σ:Aa):Option (Value × Aa):=match k with
 | 0=>none
 | k+1=>(fP x0 fun x0=>fI x1 fun x1=>fI x2 fun x2=>fL σ fun σ=>(Ky k x0 x1 (1:Int) (1:Int) x2 (0:Int) (0:Int) σ).bind fun r1=>(BG .i64 r1.1).bind fun n2=>fI n2 fun y3=>some (.int .i64 y3,r1.2))
theorem M1 (k:Nat) (x0:Option Addr) (x1:Int) (x2:Int) (σ:Aa):Co k x0 x1 x2 σ=Kv k x0 x1 x2 σ:=by
 cases k with
 | zero=>simp only[Co,Ab]; rfl
 | succ k=>rw[Pf,Nq,Kv]; simp only[QS,Bb,AU,Bf,Bc,Be,Bh,Bg,AY,Bi,Ap,A7,Bj,Ah,Ar,Aq,Ak]
noncomputable def F2 (k n:Nat) (p0:Option Addr) (h1:Nat) (x4:Int) (σ:Aa):Option Aw:=match n with
 | 0=>none
 | n+1=>(fP p0 fun p0=>fN h1 fun h1=>fI x4 fun x4=>fL σ fun σ=>p0.bind fun a3=>(Js σ a3.block (a3.off+0)).bind fun p4=>(Eu k p4 σ).bind fun r5=>(BG .i64 r5.1).bind fun n6=>bif decide (x4<n6) then (p0.bind fun a7=>(Js r5.2 a7.block (a7.off+0)).bind fun p8=>p0.bind fun a9=>(Ai .i64 r5.2 a9.block (a9.off+1)).bind fun n10=>(Kv k p8 x4 n10 r5.2).bind fun r11=>(BG .i64 r11.1).bind fun n12=>bif n12 == (0:Int) then (Ug r11.2 h1 0 [.int .i64 (Ac (x4*(64:Int))),.int .i64 (Ac ((Ac (x4+(1:Int)))*(64:Int)))] fun s13=>some (.ret,[.bool true],s13)) else (F2 k n p0 h1 (Ac (x4+(1:Int))) r11.2)) else (some (.exit 0,[],r5.2)))
termination_by structural n
theorem Qg (k n:Nat) (p0:Option Addr) (h1:Nat) (x4:Int) (σ:Aa):BQ k n p0 h1 x4 σ=F2 k n p0 h1 x4 σ:=by
 induction n generalizing p0 h1 x4 σ with
 | zero=>simp only[BQ,Ab]; rfl
 | succ n ih=>rw[Gw,Fq,F2]; simp only[Dd,M1,ih,Bb,AU,Bf,Bc,Be,Bh,Bg,AY,Bi,Ap,A7,Bj,Ah,Ar,Aq,Ak]
noncomputable def Ff (k:Nat) (x0:Option Addr) (σ:Aa):Option (Value × Aa):=match k with
 | 0=>none
 | k+1=>(fP x0 fun x0=>fL σ fun σ=>CF σ (.cells [.int .i64 (0:Int),.int .i64 (0:Int)] 120 true) fun h1 s2=>(F2 k k x0 h1 (1:Int) s2).bind fun r14=>if r14.1 = .exit 0 then (Ug r14.2.2 h1 0 [.int .i64 (0:Int),.int .i64 (0:Int)] fun s15=>(((To s15 h1 0 2).bind fun v16=>some (.agg v16.toArray)).bind fun v17=>some [v17,.bool false]).bind fun vs18=>some (Ra vs18,s15)) else if r14.1 = .ret then (nX r14.2.1 fun b19=>(((To r14.2.2 h1 0 2).bind fun v20=>some (.agg v20.toArray)).bind fun v21=>some [v21,.bool b19]).bind fun vs22=>some (Ra vs22,r14.2.2)) else none)
theorem DI (k:Nat) (x0:Option Addr) (σ:Aa):Bu k x0 σ=Ff k x0 σ:=by
 cases k with
 | zero=>simp only[Bu,Ab]; rfl
 | succ k=>rw[KM,IQ,Ff]; simp only[Dd,M1,Qg,Bb,AU,Bf,Bc,Be,Bh,Bg,AY,Bi,Ap,A7,Bj,Ah,Ar,Aq,Ak]
noncomputable def Fg (k:Nat) (x0:Option Addr) (x1:Option Addr × Nat × Nat) (σ:Aa):Option (Value × Aa):=match k with
 | 0=>none
 | k+1=>(fP x0 fun x0=>fS x1 fun x1=>fL σ fun σ=>bif decide (((x1.2.1:Nat):Int)>(0:Int)) then (if 0≤(0:Int)∧(0:Int)<(x1.2.1:Nat) then x1.1.bind fun a1=>(Ai .i64 σ a1.block (a1.off+(0:Int).toNat*2+0)).bind fun n2=>fI n2 fun y3=>fB true fun y4=>some (.tuple #[.int .i64 y3,.bool y4],σ) else none) else ((Ff k x0 σ).bind fun r5=>(ZV r5.1).bind fun q6=>if q6.length=2 then q6.head?.bind fun v7=>dw v7 fun n8 n9=>q6.tail.head?.bind fun v10=>(DW v10).bind fun b11=>CF r5.2 (.cells [.int .i64 (0:Int),.int .i64 (0:Int)] 120 true) fun h12 s13=>Ug s13 h12 0 [.int .i64 n8,.int .i64 n9] fun s14=>(Ai .i64 s14 h12 (0+0)).bind fun n15=>fI n15 fun y16=>fB b11 fun y17=>some (.tuple #[.int .i64 y16,.bool y17],s14) else none))
theorem Io (k:Nat) (x0:Option Addr) (x1:Option Addr × Nat × Nat) (σ:Aa):AR k x0 x1 σ=Fg k x0 x1 σ:=by
 cases k with
 | zero=>simp only[AR,Ab]; rfl
 | succ k=>rw[KO,IV,Fg]; simp only[DI,Bb,AU,Bf,Bc,Be,Bh,Bg,AY,Bi,Ap,A7,Bj,Ah,Ar,Aq,Ak]
noncomputable def Ih (k n:Nat) (p0:Option Addr) (i1:Int) (x8:Int) (σ:Aa):Option Aw:=match n with
 | 0=>none
 | n+1=>(fP p0 fun p0=>fI i1 fun i1=>fI x8 fun x8=>fL σ fun σ=>p0.bind fun a5=>(Ai .i64 σ a5.block (a5.off+0)).bind fun n6=>bif decide (x8<n6) then ((Jn k p0 x8 σ).bind fun r7=>(BG .i64 r7.1).bind fun n8=>bif n8 == i1 then (some (.ret,[.int .i64 x8,.int .i64 (0:Int)],r7.2)) else (Ih k n p0 i1 (Ac (x8+(1:Int))) r7.2)) else (some (.exit 0,[],σ)))
termination_by structural n
theorem UH (k n:Nat) (p0:Option Addr) (i1:Int) (x8:Int) (σ:Aa):Du k n p0 i1 x8 σ=Ih k n p0 i1 x8 σ:=by
 induction n generalizing p0 i1 x8 σ with
 | zero=>simp only[Du,Ab]; rfl
 | succ n ih=>rw[Nb,KH,Ih]; simp only[Gi,Ij,ih,Bb,AU,Bf,Bc,Be,Bh,Bg,AY,Bi,Ap,A7,Bj,Ah,Ar,Aq,Ak]
noncomputable def K7 (k:Nat) (x0:Option Addr) (x1:Int) (x2:Int) (σ:Aa):Option (Value × Aa):=match k with
 | 0=>none
 | k+1=>(fP x0 fun x0=>fI x1 fun x1=>fI x2 fun x2=>fL σ fun σ=>(G7 k x0 σ).bind fun r1=>(DW r1.1).bind fun b2=>bif !b2 then (fI (0:Int) fun y3=>fI (5:Int) fun y4=>some (.tuple #[.int .i64 y3,.int .i64 y4],r1.2)) else ((Ih k k x0 x2 (if (0:Int)>x1 then (0:Int) else x1) r1.2).bind fun r9=>if r9.1 = .exit 0 then (fI (0:Int) fun y10=>fI (4:Int) fun y11=>some (.tuple #[.int .i64 y10,.int .i64 y11],r9.2.2)) else if r9.1 = .ret then (Tm r9.2.1 fun n12 n13=>fI n12 fun y14=>fI n13 fun y15=>some (.tuple #[.int .i64 y14,.int .i64 y15],r9.2.2)) else none))
theorem Rf (k:Nat) (x0:Option Addr) (x1:Int) (x2:Int) (σ:Aa):CK k x0 x1 x2 σ=K7 k x0 x1 x2 σ:=by
 cases k with
 | zero=>simp only[CK,Ab]; rfl
 | succ k=>rw[Pq,N1,K7]; simp only[Gi,Ij,UH,Bb,AU,Bf,Bc,Be,Bh,Bg,AY,Bi,Ap,A7,Bj,Ah,Ar,Aq,Ak]
noncomputable def GQ (k n:Nat) (p0:Option Addr) (i1:Int) (x7:Option Addr × Nat × Nat) (x8:Int) (x9:Int) (σ:Aa):Option Aw:=match n with
 | 0=>none
 | n+1=>(fP p0 fun p0=>fI i1 fun i1=>fS x7 fun x7=>fI x8 fun x8=>fI x9 fun x9=>fL σ fun σ=>(bif x9 == (0:Int) then some (decide ((Ac ((2:Int)*x8))<i1),σ) else some (false,σ)).bind fun r6=>bif r6.1 then (CF r6.2 (.cells [.int .i64 (Ac ((2:Int)*x8))] 3 true) fun h7 s8=>(AZ P 3 (x7.1,x7.2.1,x7.2.2) (some ⟨h7,0,none⟩,1,1) s8).bind fun r9=>fR r9 fun r9=>p0.bind fun a10=>(Js r9.2 a10.block (a10.off+2)).bind fun p11=>(K7 k p11 (Ac (x8+(1:Int))) (1:Int) r9.2).bind fun r12=>Gr r12.1 fun n13 n14=>GQ k n p0 i1 (r9.1.1,r9.1.2.1,r9.1.2.2) n13 n14 r12.2) else (some (.exit 0,[.slice x7.1 x7.2.1 x7.2.2],r6.2)))
termination_by structural n
theorem SS (k n:Nat) (p0:Option Addr) (i1:Int) (x7:Option Addr × Nat × Nat) (x8:Int) (x9:Int) (σ:Aa):BN k n p0 i1 x7 x8 x9 σ=GQ k n p0 i1 x7 x8 x9 σ:=by
 induction n generalizing p0 i1 x7 x8 x9 σ with
 | zero=>simp only[BN,Ab]; rfl
 | succ n ih=>rw[FH,Fs,GQ]; simp only[Rf,ih,Bb,AU,Bf,Bc,Be,Bh,Bg,AY,Bi,Ap,A7,Bj,Ah,Ar,Aq,Ak]
noncomputable def LK (k:Nat) (x0:Option Addr) (x1:Int) (x2:Int) (σ:Aa):Option (Value × Aa):=match k with
 | 0=>none
 | k+1=>(fP x0 fun x0=>fI x1 fun x1=>fI x2 fun x2=>fL σ fun σ=>x0.bind fun a1=>(Js σ a1.block (a1.off+2)).bind fun p2=>if (2:Int)=0 then none else (K7 k p2 (Ac (x1.tdiv (2:Int))) (1:Int) σ).bind fun r3=>Gr r3.1 fun n4 n5=>(GQ k k x0 x2 (none,0,0) n4 n5 r3.2).bind fun r15=>if r15.1 = .exit 0 then (ZX r15.2.1 fun l16=>some (.slice l16.1 l16.2.1 l16.2.2,r15.2.2)) else none)
theorem Vu (k:Nat) (x0:Option Addr) (x1:Int) (x2:Int) (σ:Aa):Db k x0 x1 x2 σ=LK k x0 x1 x2 σ:=by
 cases k with
 | zero=>simp only[Db,Ab]; rfl
 | succ k=>rw[N9,L9,LK]; simp only[Rf,SS,Bb,AU,Bf,Bc,Be,Bh,Bg,AY,Bi,Ap,A7,Bj,Ah,Ar,Aq,Ak]
noncomputable def IH (k:Nat) (x0:Option Addr) (x1:Int) (σ:Aa):Option (Value × Aa):=match k with
 | 0=>none
 | k+1=>(fP x0 fun x0=>fI x1 fun x1=>fL σ fun σ=>(DN k x0 σ).bind fun r1=>(DW r1.1).bind fun b2=>(bif !b2 then some (true,r1.2) else some (decide (x1<(0:Int)),r1.2)).bind fun r3=>(bif r3.1 then some (true,r3.2) else x0.bind fun a4=>(En r3.2 a4.block (a4.off+0)).bind fun l5=>some (decide (x1≥((l5.2.1:Nat):Int)),r3.2)).bind fun r6=>bif r6.1 then (some (.slice none 0 0,r6.2)) else ((LK k x0 (Ac (x1*(64:Int))) (Ac ((Ac (x1+(1:Int)))*(64:Int))) r6.2).bind fun r7=>(GJ r7.1).bind fun l8=>some (.slice l8.1 l8.2.1 l8.2.2,r7.2)))
theorem Gz (k:Nat) (x0:Option Addr) (x1:Int) (σ:Aa):Cg k x0 x1 σ=IH k x0 x1 σ:=by
 cases k with
 | zero=>simp only[Cg,Ab]; rfl
 | succ k=>rw[N8,L8,IH]; simp only[Eb,Vu,Bb,AU,Bf,Bc,Be,Bh,Bg,AY,Bi,Ap,A7,Bj,Ah,Ar,Aq,Ak]
noncomputable def Lm (k:Nat) (x0:Option Addr) (x1:Int) (σ:Aa):Option (Value × Aa):=match k with
 | 0=>none
 | k+1=>(fP x0 fun x0=>fI x1 fun x1=>fL σ fun σ=>(Kz k x0 x1 σ).bind fun r1=>(DW r1.1).bind fun b2=>(bif b2 then x0.bind fun a3=>(En r1.2 a3.block (a3.off+0)).bind fun l4=>if 0≤x1∧x1<(l4.2.1:Nat) then l4.1.bind fun a5=>(Ai .i64 r1.2 a5.block (a5.off+x1.toNat*2+0)).bind fun n6=>some (n6 == (1:Int),r1.2) else none else some (false,r1.2)).bind fun r7=>fB r7.1 fun y8=>some (.bool y8,r7.2))
theorem HW (k:Nat) (x0:Option Addr) (x1:Int) (σ:Aa):BW k x0 x1 σ=Lm k x0 x1 σ:=by
 cases k with
 | zero=>simp only[BW,Ab]; rfl
 | succ k=>rw[LC,Lf,Lm]; simp only[M7,Bb,AU,Bf,Bc,Be,Bh,Bg,AY,Bi,Ap,A7,Bj,Ah,Ar,Aq,Ak]
noncomputable def IF (k:Nat) (x0:Int) (c0:Option Addr) (c1:Option Addr) (σ:Aa):Option (Value × Aa):=match k with
 | 0=>none
 | k+1=>(fI x0 fun x0=>fP c0 fun c0=>fP c1 fun c1=>fL σ fun σ=>c0.bind fun a1=>(Ai .i64 σ a1.block a1.off).bind fun n2=>(bif decide (x0>n2) then (c1.bind fun a3=>(En σ a3.block a3.off).bind fun l4=>c0.bind fun a5=>(Ai .i64 σ a5.block a5.off).bind fun n6=>c0.bind fun a7=>(Ai .i64 σ a7.block a7.off).bind fun n8=>CF σ (.cells [.int .i64 n6,.int .i64 (Ac (x0-n8))] 51 true) fun h9 s10=>(AZ P 51 (l4.1,l4.2.1,l4.2.2) (some ⟨h9,0,none⟩,1,1) s10).bind fun r11=>fR r11 fun r11=>c1.bind fun a12=>Wt r11.2 a12.block a12.off (.slice r11.1.1 r11.1.2.1 r11.1.2.2) fun s13=>some (.normal,[],s13)) else (some (.normal,[],σ)):Option Aw).bind fun r14=>if r14.1 = .normal then (some (.tuple #[],r14.2.2)) else none)
theorem Pu (k:Nat) (x0:Int) (c0:Option Addr) (c1:Option Addr) (σ:Aa):C8 k x0 c0 c1 σ=IF k x0 c0 c1 σ:=by
 cases k with
 | zero=>simp only[C8,Ab]; rfl
 | succ k=>rw[J7,Iz,IF]; simp only[Bb,AU,Bf,Bc,Be,Bh,Bg,AY,Bi,Ap,A7,Bj,Ah,Ar,Aq,Ak]
noncomputable def IG (k n:Nat) (p0:Option Addr) (h1:Nat) (h2:Nat) (p3:Option Addr) (c4:Nat) (c5:Nat) (i6:Int) (x21:Int) (σ:Aa):Option Aw:=match n with
 | 0=>none
 | n+1=>(fP p0 fun p0=>fN h1 fun h1=>fN h2 fun h2=>fP p3 fun p3=>fN c4 fun c4=>fN c5 fun c5=>fI i6 fun i6=>fI x21 fun x21=>fL σ fun σ=>bif decide (x21<i6) then (if 0≤x21∧x21<(c4:Nat) then p3.bind fun a10=>(Ai .i64 σ a10.block (a10.off+x21.toNat*1)).bind fun n11=>(IF k n11 (some ⟨h1,0,none⟩) (some ⟨h2,0,none⟩) σ).bind fun r12=>UK r12.1 ((Hb k p0 n11 r12.2).bind fun r13=>(BG .i64 r13.1).bind fun n14=>Wt r13.2 h1 0 (.int .i64 (Ac (n11+n14))) fun s15=>IG k n p0 h1 h2 p3 c4 c5 i6 (Ac (x21+(1:Int))) s15) else none) else (some (.exit 0,[],σ)))
termination_by structural n
theorem Vt (k n:Nat) (p0:Option Addr) (h1:Nat) (h2:Nat) (p3:Option Addr) (c4:Nat) (c5:Nat) (i6:Int) (x21:Int) (σ:Aa):Da k n p0 h1 h2 p3 c4 c5 i6 x21 σ=IG k n p0 h1 h2 p3 c4 c5 i6 x21 σ:=by
 induction n generalizing p0 h1 h2 p3 c4 c5 i6 x21 σ with
 | zero=>simp only[Da,Ab]; rfl
 | succ n ih=>rw[J8,I0,IG]; simp only[Gz,HW,F0,Pu,ih,Bb,AU,Bf,Bc,Be,Bh,Bg,AY,Bi,Ap,A7,Bj,Ah,Ar,Aq,Ak]
noncomputable def OI (k:Nat) (x0:Option Addr) (x1:Int) (σ:Aa):Option (Value × Aa):=match k with
 | 0=>none
 | k+1=>(fP x0 fun x0=>fI x1 fun x1=>fL σ fun σ=>(Lm k x0 x1 σ).bind fun r1=>(DW r1.1).bind fun b2=>bif !b2 then (some (.slice none 0 0,r1.2)) else (CF r1.2 (.cells [.slice none 0 0] 46 true) fun h3 s4=>CF s4 (.cells [.int .i64 (0:Int)] 3 true) fun h5 s6=>Wt s6 h5 0 (.int .i64 (Ac (x1*(64:Int)))) fun s7=>(IH k x0 x1 s7).bind fun r8=>(GJ r8.1).bind fun l9=>(IG k k x0 h5 h3 l9.1 l9.2.1 l9.2.2 ((l9.2.1:Nat):Int) (0:Int) r8.2).bind fun r16=>if r16.1 = .exit 0 then ((IF k (Ac ((Ac (x1+(1:Int)))*(64:Int))) (some ⟨h5,0,none⟩) (some ⟨h3,0,none⟩) r16.2.2).bind fun r17=>UK r17.1 ((En r17.2 h3 0).bind fun l18=>some (.slice l18.1 l18.2.1 l18.2.2,r17.2))) else none))
theorem NJ (k:Nat) (x0:Option Addr) (x1:Int) (σ:Aa):EZ k x0 x1 σ=OI k x0 x1 σ:=by
 cases k with
 | zero=>simp only[EZ,Ab]; rfl
 | succ k=>rw[IC,IW,OI]; simp only[Gz,HW,F0,Pu,Vt,Bb,AU,Bf,Bc,Be,Bh,Bg,AY,Bi,Ap,A7,Bj,Ah,Ar,Aq,Ak]
noncomputable def NP (k:Nat) (x0:Option Addr) (x1:Int) (σ:Aa):Option (Value × Aa):=match k with
 | 0=>none
 | k+1=>(fP x0 fun x0=>fI x1 fun x1=>fL σ fun σ=>(bif decide (x1<(0:Int)) then some (true,σ) else (Eu k x0 σ).bind fun r1=>(BG .i64 r1.1).bind fun n2=>some (decide (x1≥n2),r1.2)).bind fun r3=>bif r3.1 then (fI (-1:Int) fun y4=>some (.int .i64 y4,r3.2)) else (x0.bind fun a5=>(En r3.2 a5.block (a5.off+0)).bind fun l6=>if 0≤x1∧x1<(l6.2.1:Nat) then l6.1.bind fun a7=>(Ai .i64 r3.2 a7.block (a7.off+x1.toNat*2+0)).bind fun n8=>fI n8 fun y9=>some (.int .i64 y9,r3.2) else none))
theorem QR (k:Nat) (x0:Option Addr) (x1:Int) (σ:Aa):Dk k x0 x1 σ=NP k x0 x1 σ:=by
 cases k with
 | zero=>simp only[Dk,Ab]; rfl
 | succ k=>rw[Ph,Ns,NP]; simp only[Dd,Bb,AU,Bf,Bc,Be,Bh,Bg,AY,Bi,Ap,A7,Bj,Ah,Ar,Aq,Ak]
noncomputable def Fi (k n:Nat) (p0:Option Addr) (i1:Int) (x3:Option Addr × Nat × Nat) (x10:Int) (σ:Aa):Option Aw:=match n with
 | 0=>none
 | n+1=>(fP p0 fun p0=>fI i1 fun i1=>fS x3 fun x3=>fI x10 fun x10=>fL σ fun σ=>bif decide (x10<i1) then (p0.bind fun a5=>(Js σ a5.block (a5.off+0)).bind fun p6=>(NP k p6 x10 σ).bind fun r7=>(BG .i64 r7.1).bind fun n8=>(bif n8 == (1:Int) then p0.bind fun a9=>(Js r7.2 a9.block (a9.off+0)).bind fun p10=>(Kx k p10 x10 r7.2).bind fun r11=>(BG .i64 r11.1).bind fun n12=>p0.bind fun a13=>(Ai .i64 r11.2 a13.block (a13.off+1)).bind fun n14=>some (n12 == n14,r11.2) else some (false,r7.2)).bind fun r15=>(bif r15.1 then (CF r15.2 (.cells [.int .i64 x10] 3 true) fun h16 s17=>(AZ P 3 (x3.1,x3.2.1,x3.2.2) (some ⟨h16,0,none⟩,1,1) s17).bind fun r18=>fR r18 fun r18=>some (.normal,[.slice r18.1.1 r18.1.2.1 r18.1.2.2],r18.2)) else (some (.normal,[.slice x3.1 x3.2.1 x3.2.2],r15.2)):Option Aw).bind fun r19=>if r19.1 = .normal then (ZX r19.2.1 fun l20=>Fi k n p0 i1 (l20.1,l20.2.1,l20.2.2) (Ac (x10+(1:Int))) r19.2.2) else none) else (some (.exit 0,[.slice x3.1 x3.2.1 x3.2.2],σ)))
termination_by structural n
theorem P5 (k n:Nat) (p0:Option Addr) (i1:Int) (x3:Option Addr × Nat × Nat) (x10:Int) (σ:Aa):Bw k n p0 i1 x3 x10 σ=Fi k n p0 i1 x3 x10 σ:=by
 induction n generalizing p0 i1 x3 x10 σ with
 | zero=>simp only[Bw,Ab]; rfl
 | succ n ih=>rw[FU,Fh,Fi]; simp only[Dd,QR,M5,ih,Bb,AU,Bf,Bc,Be,Bh,Bg,AY,Bi,Ap,A7,Bj,Ah,Ar,Aq,Ak]
noncomputable def Gs (k:Nat) (x0:Option Addr) (σ:Aa):Option (Value × Aa):=match k with
 | 0=>none
 | k+1=>(fP x0 fun x0=>fL σ fun σ=>x0.bind fun a1=>(Js σ a1.block (a1.off+0)).bind fun p2=>(Eu k p2 σ).bind fun r3=>(BG .i64 r3.1).bind fun n4=>(Fi k k x0 n4 (none,0,0) (0:Int) r3.2).bind fun r21=>if r21.1 = .exit 0 then (ZX r21.2.1 fun l22=>some (.slice l22.1 l22.2.1 l22.2.2,r21.2.2)) else none)
theorem CB (k:Nat) (x0:Option Addr) (σ:Aa):Bq k x0 σ=Gs k x0 σ:=by
 cases k with
 | zero=>simp only[Bq,Ab]; rfl
 | succ k=>rw[Kr,Ip,Gs]; simp only[Dd,QR,M5,P5,Bb,AU,Bf,Bc,Be,Bh,Bg,AY,Bi,Ap,A7,Bj,Ah,Ar,Aq,Ak]
noncomputable def FL (k n:Nat) (i0:Int) (i1:Int) (p2:Option Addr) (c3:Nat) (c4:Nat) (i5:Int) (x7:Option Addr × Nat × Nat) (x27:Int) (σ:Aa):Option Aw:=match n with
 | 0=>none
 | n+1=>(fI i0 fun i0=>fI i1 fun i1=>fP p2 fun p2=>fN c3 fun c3=>fN c4 fun c4=>fI i5 fun i5=>fS x7 fun x7=>fI x27 fun x27=>fL σ fun σ=>bif decide (x27<i5) then (if 0≤x27∧x27<(c3:Nat) then p2.bind fun a9=>(Ai .i64 σ a9.block (a9.off+x27.toNat*2)).bind fun n10=>(Ai .i64 σ a9.block (a9.off+x27.toNat*2+1)).bind fun n11=>CF σ (.cells [.int .i64 (0:Int),.int .i64 (0:Int)] 51 true) fun h12 s13=>Ug s13 h12 0 [.int .i64 n10,.int .i64 n11] fun s14=>(Ai .i64 s14 h12 (0+0)).bind fun n15=>(bif decide ((Ac (i0-n15))>(0:Int)) then ((Ai .i64 s14 h12 (0+1)).bind fun n16=>Wt s14 h12 (0+0) (.int .i64 i0) fun s17=>Wt s17 h12 (0+1) (.int .i64 (Ac (n16-(Ac (i0-n15))))) fun s18=>some (.normal,[],s18)) else (some (.normal,[],s14)):Option Aw).bind fun r19=>if r19.1 = .normal then ((Ai .i64 r19.2.2 h12 (0+1)).bind fun n20=>(bif decide (n20≥i1) then ((Ai .i64 r19.2.2 h12 0).bind fun n21=>(Ai .i64 r19.2.2 h12 (0+1)).bind fun n22=>CF r19.2.2 (.cells [.int .i64 n21,.int .i64 n22] 51 true) fun h23 s24=>(AZ P 51 (x7.1,x7.2.1,x7.2.2) (some ⟨h23,0,none⟩,1,1) s24).bind fun r25=>fR r25 fun r25=>some (.normal,[.slice r25.1.1 r25.1.2.1 r25.1.2.2],r25.2)) else (some (.normal,[.slice x7.1 x7.2.1 x7.2.2],r19.2.2)):Option Aw).bind fun r26=>if r26.1 = .normal then (ZX r26.2.1 fun l27=>FL k n i0 i1 p2 c3 c4 i5 (l27.1,l27.2.1,l27.2.2) (Ac (x27+(1:Int))) r26.2.2) else none) else none else none) else (some (.exit 2,[.slice x7.1 x7.2.1 x7.2.2],σ)))
termination_by structural n
theorem KA (k n:Nat) (i0:Int) (i1:Int) (p2:Option Addr) (c3:Nat) (c4:Nat) (i5:Int) (x7:Option Addr × Nat × Nat) (x27:Int) (σ:Aa):BE k n i0 i1 p2 c3 c4 i5 x7 x27 σ=FL k n i0 i1 p2 c3 c4 i5 x7 x27 σ:=by
 induction n generalizing i0 i1 p2 c3 c4 i5 x7 x27 σ with
 | zero=>simp only[BE,Ab]; rfl
 | succ n ih=>rw[GB,FD,FL]; simp only[NJ,CB,ih,Bb,AU,Bf,Bc,Be,Bh,Bg,AY,Bi,Ap,A7,Bj,Ah,Ar,Aq,Ak]
noncomputable def FK (k n:Nat) (p0:Option Addr) (i1:Int) (i2:Int) (p3:Option Addr) (c4:Nat) (c5:Nat) (i6:Int) (x7:Option Addr × Nat × Nat) (x16:Int) (σ:Aa):Option Aw:=match n with
 | 0=>none
 | n+1=>(fP p0 fun p0=>fI i1 fun i1=>fI i2 fun i2=>fP p3 fun p3=>fN c4 fun c4=>fN c5 fun c5=>fI i6 fun i6=>fS x7 fun x7=>fI x16 fun x16=>fL σ fun σ=>bif decide (x16<i6) then (if 0≤x16∧x16<(c4:Nat) then p3.bind fun a3=>(Ai .i64 σ a3.block (a3.off+x16.toNat*1)).bind fun n4=>p0.bind fun a5=>(Js σ a5.block (a5.off+0)).bind fun p6=>(OI k p6 n4 σ).bind fun r7=>(GJ r7.1).bind fun l8=>(FL k k i1 i2 l8.1 l8.2.1 l8.2.2 ((l8.2.1:Nat):Int) (x7.1,x7.2.1,x7.2.2) (0:Int) r7.2).bind fun r28=>if r28.1 = .exit 2 then (ZX r28.2.1 fun l29=>FK k n p0 i1 i2 p3 c4 c5 i6 (l29.1,l29.2.1,l29.2.2) (Ac (x16+(1:Int))) r28.2.2) else none else none) else (some (.exit 0,[.slice x7.1 x7.2.1 x7.2.2],σ)))
termination_by structural n
theorem Qv (k n:Nat) (p0:Option Addr) (i1:Int) (i2:Int) (p3:Option Addr) (c4:Nat) (c5:Nat) (i6:Int) (x7:Option Addr × Nat × Nat) (x16:Int) (σ:Aa):BB k n p0 i1 i2 p3 c4 c5 i6 x7 x16 σ=FK k n p0 i1 i2 p3 c4 c5 i6 x7 x16 σ:=by
 induction n generalizing p0 i1 i2 p3 c4 c5 i6 x7 x16 σ with
 | zero=>simp only[BB,Ab]; rfl
 | succ n ih=>rw[GA,FC,FK]; simp only[NJ,CB,KA,ih,Bb,AU,Bf,Bc,Be,Bh,Bg,AY,Bi,Ap,A7,Bj,Ah,Ar,Aq,Ak]
noncomputable def E7 (k:Nat) (x0:Option Addr) (x1:Int) (x2:Int) (σ:Aa):Option (Value × Aa):=match k with
 | 0=>none
 | k+1=>(fP x0 fun x0=>fI x1 fun x1=>fI x2 fun x2=>fL σ fun σ=>(Gs k x0 σ).bind fun r1=>(GJ r1.1).bind fun l2=>(FK k k x0 x1 x2 l2.1 l2.2.1 l2.2.2 ((l2.2.1:Nat):Int) (none,0,0) (0:Int) r1.2).bind fun r30=>if r30.1 = .exit 0 then (ZX r30.2.1 fun l31=>some (.slice l31.1 l31.2.1 l31.2.2,r30.2.2)) else none)
theorem IM (k:Nat) (x0:Option Addr) (x1:Int) (x2:Int) (σ:Aa):AO k x0 x1 x2 σ=E7 k x0 x1 x2 σ:=by
 cases k with
 | zero=>simp only[AO,Ab]; rfl
 | succ k=>rw[Ls,Jz,E7]; simp only[NJ,CB,KA,Qv,Bb,AU,Bf,Bc,Be,Bh,Bg,AY,Bi,Ap,A7,Bj,Ah,Ar,Aq,Ak]
noncomputable def LI (k:Nat) (x1:Option Addr) (x2:Int) (σ:Aa):Option (Value × Aa):=match k with
 | 0=>none
 | k+1=>(fP x1 fun x1=>fI x2 fun x2=>fL σ fun σ=>CF σ (.cells [] 150 true) fun h1 s2=>(E7 k x1 (0:Int) x2 s2).bind fun r3=>(GJ r3.1).bind fun l4=>(Fg k x1 (l4.1,l4.2.1,l4.2.2) r3.2).bind fun r5=>Xt r5.1 fun n6 b7=>fI n6 fun y8=>fB b7 fun y9=>some (.tuple #[.int .i64 y8,.bool y9],r5.2))
theorem US (k:Nat) (x1:Option Addr) (x2:Int) (σ:Aa):CY k x1 x2 σ=LI k x1 x2 σ:=by
 cases k with
 | zero=>simp only[CY,Ab]; rfl
 | succ k=>rw[N6,L6,LI]; simp only[Io,IM,Bb,AU,Bf,Bc,Be,Bh,Bg,AY,Bi,Ap,A7,Bj,Ah,Ar,Aq,Ak]
theorem Uy (k:Nat) (x1:Option Addr) (x2:Int) (σ:Aa):fn P (XK Kn.b) H k 199 [.agg #[],.pointer x1,.int .i64 x2] σ=CY k x1 x2 σ:=by
 simp only[CY,Ab]
noncomputable def Kl (k:Nat) (x0_0:Int) (x0_1:Int) (x1_0:Int) (x1_1:Int) (σ:Aa):Option (Value × Aa):=match k with
 | 0=>none
 | k+1=>(fI x0_0 fun x0_0=>fI x0_1 fun x0_1=>fI x1_0 fun x1_0=>fI x1_1 fun x1_1=>fL σ fun σ=>CF σ (.cells [.int .i64 x0_0,.int .i64 x0_1] 51 true) fun h1 s2=>CF s2 (.cells [.int .i64 x1_0,.int .i64 x1_1] 51 true) fun h3 s4=>(Ai .i64 s4 h1 (0+1)).bind fun n5=>(Ai .i64 s4 h3 (0+1)).bind fun n6=>fI (Ac (n5-n6)) fun y7=>some (.int .i64 y7,s4))
theorem Tv (k:Nat) (x0_0:Int) (x0_1:Int) (x1_0:Int) (x1_1:Int) (σ:Aa):CW k x0_0 x0_1 x1_0 x1_1 σ=Kl k x0_0 x0_1 x1_0 x1_1 σ:=by
 cases k with
 | zero=>simp only[CW,Ab]; rfl
 | succ k=>rw[LP,JY,Kl]; simp only[Bb,AU,Bf,Bc,Be,Bh,Bg,AY,Bi,Ap,A7,Bj,Ah,Ar,Aq,Ak]
theorem SC (k:Nat) (x0_0:Int) (x0_1:Int) (x1_0:Int) (x1_1:Int) (σ:Aa):fn P (XK Kn.b) H k 206 [.agg #[.int .i64 x0_0,.int .i64 x0_1],.agg #[.int .i64 x1_0,.int .i64 x1_1]] σ=CW k x0_0 x0_1 x1_0 x1_1 σ:=by
 simp only[CW,Ab]
noncomputable def NN (k:Nat) (n:FuncId) (l:List Value) (σ:Aa):Option (Value × Aa):=
 if n=206 then (match l with
  | [.agg ⟨[.int .i64 y1,.int .i64 y2]⟩,.agg ⟨[.int .i64 y3,.int .i64 y4]⟩]=>Kl k y1 y2 y3 y4 σ
  | l=>fn P (XK Kn.b) H k 206 l σ) else
 fn P (XK Kn.b) H k n l σ
theorem ai (k:Nat) (n:FuncId) (l:List Value) (σ:Aa):fn P (XK Kn.b) H k n l σ=NN k n l σ:=by
 unfold NN
 split
 ·rename_i hn; subst hn
  split
  ·exact (SC k _ _ _ _ σ).trans (Tv k _ _ _ _ σ)
  ·rfl
 rfl
noncomputable def Rc (k:Nat) (f:Value) (args:List Value) (σ:Aa):Option (Value × Aa):=match f with
 | .func (.func n) first cap=>NN k n (first.toList++args++cap.toList) σ
 | .func (.method nm) first _=>(match first.toList++args with
   | .iface t v::rest=>(TJ P t nm).bind fun n=>NN k n (v::rest) σ
   | _=>none)
 | _=>none
theorem PA (k:Nat) (f:Value) (args:List Value) (σ:Aa):Df k f args σ=Rc k f args σ:=by
 simp only[Df,Ab]
 unfold OS Rc
 simp only[ai]
 rfl
noncomputable def C3 (k n:Nat) (p0:Option Addr) (c1:Nat) (c2:Nat) (i3:Int) (v4:Value) (x9:Int) (σ:Aa):Option Aw:=match n with
 | 0=>none
 | n+1=>(fP p0 fun p0=>fN c1 fun c1=>fN c2 fun c2=>fI i3 fun i3=>fI x9 fun x9=>fL σ fun σ=>(bif decide (x9>i3) then if 0≤x9∧x9<(c1:Nat) then p0.bind fun a1=>(Ai .i64 σ a1.block (a1.off+x9.toNat*2)).bind fun n2=>(Ai .i64 σ a1.block (a1.off+x9.toNat*2+1)).bind fun n3=>if 0≤(Ac (x9-(1:Int)))∧(Ac (x9-(1:Int)))<(c1:Nat) then p0.bind fun a4=>(Ai .i64 σ a4.block (a4.off+(Ac (x9-(1:Int))).toNat*2)).bind fun n5=>(Ai .i64 σ a4.block (a4.off+(Ac (x9-(1:Int))).toNat*2+1)).bind fun n6=>(Rc k v4 [.agg #[.int .i64 n2,.int .i64 n3],.agg #[.int .i64 n5,.int .i64 n6]] σ).bind fun r7=>(BG .i64 r7.1).bind fun n8=>some (decide (n8<(0:Int)),r7.2) else none else none else some (false,σ)).bind fun r9=>bif r9.1 then (if 0≤(Ac (x9-(1:Int)))∧(Ac (x9-(1:Int)))<(c1:Nat) then p0.bind fun a10=>(Ai .i64 r9.2 a10.block (a10.off+(Ac (x9-(1:Int))).toNat*2)).bind fun n11=>(Ai .i64 r9.2 a10.block (a10.off+(Ac (x9-(1:Int))).toNat*2+1)).bind fun n12=>if 0≤x9∧x9<(c1:Nat) then p0.bind fun a13=>(Ai .i64 r9.2 a13.block (a13.off+x9.toNat*2)).bind fun n14=>(Ai .i64 r9.2 a13.block (a13.off+x9.toNat*2+1)).bind fun n15=>if 0≤x9∧x9<(c1:Nat) then p0.bind fun a16=>Ug r9.2 a16.block (a16.off+x9.toNat*2) [.int .i64 n11,.int .i64 n12] fun s17=>if 0≤(Ac (x9-(1:Int)))∧(Ac (x9-(1:Int)))<(c1:Nat) then p0.bind fun a18=>Ug s17 a18.block (a18.off+(Ac (x9-(1:Int))).toNat*2) [.int .i64 n14,.int .i64 n15] fun s19=>C3 k n p0 c1 c2 i3 v4 (Ac (x9-(1:Int))) s19 else none else none else none else none) else (some (.exit 2,[],r9.2)))
termination_by structural n
theorem FA (k n:Nat) (p0:Option Addr) (c1:Nat) (c2:Nat) (i3:Int) (v4:Value) (x9:Int) (σ:Aa):AK k n p0 c1 c2 i3 v4 x9 σ=C3 k n p0 c1 c2 i3 v4 x9 σ:=by
 induction n generalizing p0 c1 c2 i3 v4 x9 σ with
 | zero=>simp only[AK,Ab]; rfl
 | succ n ih=>rw[Dm,C0,C3]; simp only[PA,ih,Bb,AU,Bf,Bc,Be,Bh,Bg,AY,Bi,Ap,A7,Bj,Ah,Ar,Aq,Ak]
noncomputable def C2 (k n:Nat) (p0:Option Addr) (c1:Nat) (c2:Nat) (i3:Int) (i4:Int) (v5:Value) (x8:Int) (σ:Aa):Option Aw:=match n with
 | 0=>none
 | n+1=>(fP p0 fun p0=>fN c1 fun c1=>fN c2 fun c2=>fI i3 fun i3=>fI i4 fun i4=>fI x8 fun x8=>fL σ fun σ=>bif decide (x8<i4) then ((C3 k k p0 c1 c2 i3 v5 x8 σ).bind fun r20=>if r20.1 = .exit 2 then (C2 k n p0 c1 c2 i3 i4 v5 (Ac (x8+(1:Int))) r20.2.2) else none) else (some (.exit 0,[],σ)))
termination_by structural n
theorem JQ (k n:Nat) (p0:Option Addr) (c1:Nat) (c2:Nat) (i3:Int) (i4:Int) (v5:Value) (x8:Int) (σ:Aa):AJ k n p0 c1 c2 i3 i4 v5 x8 σ=C2 k n p0 c1 c2 i3 i4 v5 x8 σ:=by
 induction n generalizing p0 c1 c2 i3 i4 v5 x8 σ with
 | zero=>simp only[AJ,Ab]; rfl
 | succ n ih=>rw[Dl,Cz,C2]; simp only[PA,FA,ih,Bb,AU,Bf,Bc,Be,Bh,Bg,AY,Bi,Ap,A7,Bj,Ah,Ar,Aq,Ak]
noncomputable def CU (k:Nat) (x0:Option Addr × Nat × Nat) (x1:Int) (x2:Int) (x3:Value) (σ:Aa):Option (Value × Aa):=match k with
 | 0=>none
 | k+1=>(fS x0 fun x0=>fI x1 fun x1=>fI x2 fun x2=>fL σ fun σ=>(C2 k k x0.1 x0.2.1 x0.2.2 x1 x2 x3 (Ac (x1+(1:Int))) σ).bind fun r21=>if r21.1 = .exit 0 then (some (.tuple #[],r21.2.2)) else none)
theorem CN (k:Nat) (x0:Option Addr × Nat × Nat) (x1:Int) (x2:Int) (x3:Value) (σ:Aa):AA k x0 x1 x2 x3 σ=CU k x0 x1 x2 x3 σ:=by
 cases k with
 | zero=>simp only[AA,Ab]; rfl
 | succ k=>rw[DV,CR,CU]; simp only[PA,FA,JQ,Bb,AU,Bf,Bc,Be,Bh,Bg,AY,Bi,Ap,A7,Bj,Ah,Ar,Aq,Ak]
noncomputable def F5 (k:Nat) (x0:Option Addr × Nat × Nat) (x1:Int) (x2:Int) (x3:Int) (x4:Value) (σ:Aa):Option (Value × Aa):=Ay k x0 x1 x2 x3 x4 σ
theorem DH (k:Nat) (x0:Option Addr × Nat × Nat) (x1:Int) (x2:Int) (x3:Int) (x4:Value) (σ:Aa):Ay k x0 x1 x2 x3 x4 σ=F5 k x0 x1 x2 x3 x4 σ:=rfl
noncomputable def DE (k n:Nat) (p0:Option Addr) (c1:Nat) (c2:Nat) (i3:Int) (v4:Value) (x7:Int) (x8:Int) (σ:Aa):Option Aw:=match n with
 | 0=>none
 | n+1=>(fP p0 fun p0=>fN c1 fun c1=>fN c2 fun c2=>fI i3 fun i3=>fI x7 fun x7=>fI x8 fun x8=>fL σ fun σ=>bif decide (x8≤i3) then ((CU k (p0,c1,c2) x7 x8 (v4) σ).bind fun r1=>UK r1.1 (DE k n p0 c1 c2 i3 v4 x8 (Ac (x8+(20:Int))) r1.2)) else (some (.exit 0,[.int .i64 x7],σ)))
termination_by structural n
theorem EX (k n:Nat) (p0:Option Addr) (c1:Nat) (c2:Nat) (i3:Int) (v4:Value) (x7:Int) (x8:Int) (σ:Aa):AV k n p0 c1 c2 i3 v4 x7 x8 σ=DE k n p0 c1 c2 i3 v4 x7 x8 σ:=by
 induction n generalizing p0 c1 c2 i3 v4 x7 x8 σ with
 | zero=>simp only[AV,Ab]; rfl
 | succ n ih=>rw[EC,DC,DE]; simp only[CN,DH,ih,Bb,AU,Bf,Bc,Be,Bh,Bg,AY,Bi,Ap,A7,Bj,Ah,Ar,Aq,Ak]
noncomputable def DG (k n:Nat) (p0:Option Addr) (c1:Nat) (c2:Nat) (i3:Int) (v4:Value) (i5:Int) (x7:Int) (x8:Int) (σ:Aa):Option Aw:=match n with
 | 0=>none
 | n+1=>(fP p0 fun p0=>fN c1 fun c1=>fN c2 fun c2=>fI i3 fun i3=>fI i5 fun i5=>fI x7 fun x7=>fI x8 fun x8=>fL σ fun σ=>bif decide (x8≤i3) then ((F5 k (p0,c1,c2) x7 (Ac (x7+i5)) x8 (v4) σ).bind fun r5=>UK r5.1 (DG k n p0 c1 c2 i3 v4 i5 x8 (Ac (x8+(Ac ((2:Int)*i5)))) r5.2)) else (some (.exit 4,[.int .i64 x7],σ)))
termination_by structural n
theorem Hq (k n:Nat) (p0:Option Addr) (c1:Nat) (c2:Nat) (i3:Int) (v4:Value) (i5:Int) (x7:Int) (x8:Int) (σ:Aa):Bo k n p0 c1 c2 i3 v4 i5 x7 x8 σ=DG k n p0 c1 c2 i3 v4 i5 x7 x8 σ:=by
 induction n generalizing p0 c1 c2 i3 v4 i5 x7 x8 σ with
 | zero=>simp only[Bo,Ab]; rfl
 | succ n ih=>rw[GK,Fj,DG]; simp only[CN,DH,EX,ih,Bb,AU,Bf,Bc,Be,Bh,Bg,AY,Bi,Ap,A7,Bj,Ah,Ar,Aq,Ak]
noncomputable def DF (k n:Nat) (p0:Option Addr) (c1:Nat) (c2:Nat) (i3:Int) (v4:Value) (x6:Int) (σ:Aa):Option Aw:=match n with
 | 0=>none
 | n+1=>(fP p0 fun p0=>fN c1 fun c1=>fN c2 fun c2=>fI i3 fun i3=>fI x6 fun x6=>fL σ fun σ=>bif decide (x6<i3) then ((DG k k p0 c1 c2 i3 v4 x6 (0:Int) (Ac ((2:Int)*x6)) σ).bind fun r6=>if r6.1 = .exit 4 then (Uj r6.2.1 fun n7=>(bif decide ((Ac (n7+x6))<i3) then ((F5 k (p0,c1,c2) n7 (Ac (n7+x6)) i3 (v4) r6.2.2).bind fun r8=>UK r8.1 (some (.normal,[],r8.2))) else (some (.normal,[],r6.2.2)):Option Aw).bind fun r9=>if r9.1 = .normal then (DF k n p0 c1 c2 i3 v4 (Ac (x6*(2:Int))) r9.2.2) else none) else none) else (some (.exit 2,[],σ)))
termination_by structural n
theorem ML (k n:Nat) (p0:Option Addr) (c1:Nat) (c2:Nat) (i3:Int) (v4:Value) (x6:Int) (σ:Aa):AW k n p0 c1 c2 i3 v4 x6 σ=DF k n p0 c1 c2 i3 v4 x6 σ:=by
 induction n generalizing p0 c1 c2 i3 v4 x6 σ with
 | zero=>simp only[AW,Ab]; rfl
 | succ n ih=>rw[ED,DD,DF]; simp only[CN,DH,EX,Hq,ih,Bb,AU,Bf,Bc,Be,Bh,Bg,AY,Bi,Ap,A7,Bj,Ah,Ar,Aq,Ak]
noncomputable def Gh (k:Nat) (x0:Option Addr × Nat × Nat) (x1:Int) (x2:Value) (σ:Aa):Option (Value × Aa):=match k with
 | 0=>none
 | k+1=>(fS x0 fun x0=>fI x1 fun x1=>fL σ fun σ=>(DE k k x0.1 x0.2.1 x0.2.2 x1 x2 (0:Int) (20:Int) σ).bind fun r2=>if r2.1 = .exit 0 then (Uj r2.2.1 fun n3=>(CU k (x0.1,x0.2.1,x0.2.2) n3 x1 (x2) r2.2.2).bind fun r4=>UK r4.1 ((DF k k x0.1 x0.2.1 x0.2.2 x1 x2 (20:Int) r4.2).bind fun r10=>if r10.1 = .exit 2 then (some (.tuple #[],r10.2.2)) else none)) else none)
theorem NW (k:Nat) (x0:Option Addr × Nat × Nat) (x1:Int) (x2:Value) (σ:Aa):Cm k x0 x1 x2 σ=Gh k x0 x1 x2 σ:=by
 cases k with
 | zero=>simp only[Cm,Ab]; rfl
 | succ k=>rw[Fk,Ey,Gh]; simp only[CN,DH,EX,Hq,ML,Bb,AU,Bf,Bc,Be,Bh,Bg,AY,Bi,Ap,A7,Bj,Ah,Ar,Aq,Ak]
noncomputable def FB (k:Nat) (x0:Option Addr × Nat × Nat) (x1:Value) (σ:Aa):Option (Value × Aa):=match k with
 | 0=>none
 | k+1=>(fS x0 fun x0=>fL σ fun σ=>(Gh k (x0.1,x0.2.1,x0.2.2) ((x0.2.1:Nat):Int) (x1) σ).bind fun r1=>UK r1.1 (some (.tuple #[],r1.2)))
theorem NU (k:Nat) (x0:Option Addr × Nat × Nat) (x1:Value) (σ:Aa):Bk k x0 x1 σ=FB k x0 x1 σ:=by
 cases k with
 | zero=>simp only[Bk,Ab]; rfl
 | succ k=>rw[EV,Eo,FB]; simp only[NW,Bb,AU,Bf,Bc,Be,Bh,Bg,AY,Bi,Ap,A7,Bj,Ah,Ar,Aq,Ak]
noncomputable def MD (k:Nat) (x1:Option Addr) (x2:Int) (σ:Aa):Option (Value × Aa):=match k with
 | 0=>none
 | k+1=>(fP x1 fun x1=>fI x2 fun x2=>fL σ fun σ=>CF σ (.cells [] 151 true) fun h1 s2=>(E7 k x1 (0:Int) x2 s2).bind fun r3=>(GJ r3.1).bind fun l4=>(FB k (l4.1,l4.2.1,l4.2.2) (.func (.func 206) #[] #[]) r3.2).bind fun r5=>UK r5.1 ((Fg k x1 (l4.1,l4.2.1,l4.2.2) r5.2).bind fun r6=>Xt r6.1 fun n7 b8=>fI n7 fun y9=>fB b8 fun y10=>some (.tuple #[.int .i64 y9,.bool y10],r6.2)))
theorem Wf (k:Nat) (x1:Option Addr) (x2:Int) (σ:Aa):Dx k x1 x2 σ=MD k x1 x2 σ:=by
 cases k with
 | zero=>simp only[Dx,Ab]; rfl
 | succ k=>rw[NY,Mp,MD]; simp only[Io,IM,NU,Bb,AU,Bf,Bc,Be,Bh,Bg,AY,Bi,Ap,A7,Bj,Ah,Ar,Aq,Ak]
theorem UQ (k:Nat) (x1:Option Addr) (x2:Int) (σ:Aa):fn P (XK Kn.b) H k 204 [.agg #[],.pointer x1,.int .i64 x2] σ=Dx k x1 x2 σ:=by
 simp only[Dx,Ab]
noncomputable def MF (k:Nat) (x1:Option Addr) (x2:Int) (σ:Aa):Option (Value × Aa):=match k with
 | 0=>none
 | k+1=>(fP x1 fun x1=>fI x2 fun x2=>fL σ fun σ=>CF σ (.cells [] 152 true) fun h1 s2=>x1.bind fun a3=>(Ai .i64 s2 a3.block (a3.off+3+0)).bind fun n4=>(E7 k x1 n4 x2 s2).bind fun r5=>(GJ r5.1).bind fun l6=>(E7 k x1 (0:Int) x2 r5.2).bind fun r7=>(GJ r7.1).bind fun l8=>(AZ P 51 (l6.1,l6.2.1,l6.2.2) (l8.1,l8.2.1,l8.2.2) r7.2).bind fun r9=>fR r9 fun r9=>(Fg k x1 (r9.1.1,r9.1.2.1,r9.1.2.2) r9.2).bind fun r10=>Xt r10.1 fun n11 b12=>(bif b12 then (x1.bind fun a13=>Wt r10.2 a13.block (a13.off+3+0) (.int .i64 (Ac (n11+x2))) fun s14=>some (.normal,[],s14)) else (some (.normal,[],r10.2)):Option Aw).bind fun r15=>if r15.1 = .normal then (fI n11 fun y16=>fB b12 fun y17=>some (.tuple #[.int .i64 y16,.bool y17],r15.2.2)) else none)
theorem Wh (k:Nat) (x1:Option Addr) (x2:Int) (σ:Aa):Dz k x1 x2 σ=MF k x1 x2 σ:=by
 cases k with
 | zero=>simp only[Dz,Ab]; rfl
 | succ k=>rw[Oa,Mr,MF]; simp only[Io,IM,Bb,AU,Bf,Bc,Be,Bh,Bg,AY,Bi,Ap,A7,Bj,Ah,Ar,Aq,Ak]
theorem UU (k:Nat) (x1:Option Addr) (x2:Int) (σ:Aa):fn P (XK Kn.b) H k 212 [.agg #[],.pointer x1,.int .i64 x2] σ=Dz k x1 x2 σ:=by
 simp only[Dz,Ab]
noncomputable def Lk (k:Nat) (x0:Option Addr) (x1:Int) (σ:Aa):Option (Value × Aa):=match k with
 | 0=>none
 | k+1=>(fP x0 fun x0=>fI x1 fun x1=>fL σ fun σ=>x0.bind fun a1=>(Ai .i64 σ a1.block (a1.off+1)).bind fun n2=>x0.bind fun a3=>(Ai .i64 σ a3.block (a3.off+0)).bind fun n4=>fB (decide ((Ac (n2-n4))≥x1)) fun y5=>some (.bool y5,σ))
theorem Rt (k:Nat) (x0:Option Addr) (x1:Int) (σ:Aa):DJ k x0 x1 σ=Lk k x0 x1 σ:=by
 cases k with
 | zero=>simp only[DJ,Ab]; rfl
 | succ k=>rw[PJ,Ot,Lk]; simp only[Bb,AU,Bf,Bc,Be,Bh,Bg,AY,Bi,Ap,A7,Bj,Ah,Ar,Aq,Ak]
noncomputable def Ku (k:Nat) (x0:Option Addr) (x1:Int) (σ:Aa):Option (Value × Aa):=match k with
 | 0=>none
 | k+1=>(fP x0 fun x0=>fI x1 fun x1=>fL σ fun σ=>x0.bind fun a1=>(Ai .i64 σ a1.block (a1.off+0)).bind fun n2=>x0.bind fun a3=>Wt σ a3.block (a3.off+0) (.int .i64 (Ac (n2+x1))) fun s4=>x0.bind fun a5=>(Ai .i64 s4 a5.block (a5.off+0)).bind fun n6=>fI (Ac (n6-x1)) fun y7=>some (.int .i64 y7,s4))
theorem Qx (k:Nat) (x0:Option Addr) (x1:Int) (σ:Aa):Dj k x0 x1 σ=Ku k x0 x1 σ:=by
 cases k with
 | zero=>simp only[Dj,Ab]; rfl
 | succ k=>rw[Pe,Np,Ku]; simp only[Bb,AU,Bf,Bc,Be,Bh,Bg,AY,Bi,Ap,A7,Bj,Ah,Ar,Aq,Ak]
noncomputable def Gt (k:Nat) (x0:Option Addr) (x1:Option Addr) (x2:Int) (σ:Aa):Option (Value × Aa):=match k with
 | 0=>none
 | k+1=>(fP x0 fun x0=>fP x1 fun x1=>fI x2 fun x2=>fL σ fun σ=>(Lk k x1 x2 σ).bind fun r1=>(DW r1.1).bind fun b2=>(bif !b2 then ((Ff k x0 r1.2).bind fun r3=>(ZV r3.1).bind fun q4=>if q4.length=2 then q4.head?.bind fun v5=>dw v5 fun n6 n7=>q4.tail.head?.bind fun v8=>(DW v8).bind fun b9=>CF r3.2 (.cells [.int .i64 (0:Int),.int .i64 (0:Int)] 120 true) fun h10 s11=>Ug s11 h10 0 [.int .i64 n6,.int .i64 n7] fun s12=>bif !b9 then (some (.ret,[.int .i64 (0:Int),.bool false],s12)) else ((Ai .i64 s12 h10 0).bind fun n13=>(Ai .i64 s12 h10 (0+1)).bind fun n14=>x1.bind fun a15=>Ug s12 a15.block a15.off [.int .i64 n13,.int .i64 n14] fun s16=>some (.normal,[],s16)) else none) else (some (.normal,[],r1.2)):Option Aw).bind fun r17=>if r17.1 = .normal then ((Ku k x1 x2 r17.2.2).bind fun r18=>(BG .i64 r18.1).bind fun n19=>fI n19 fun y20=>fB true fun y21=>some (.tuple #[.int .i64 y20,.bool y21],r18.2)) else if r17.1 = .ret then (dK r17.2.1 fun n22 b23=>fI n22 fun y24=>fB b23 fun y25=>some (.tuple #[.int .i64 y24,.bool y25],r17.2.2)) else none)
theorem Lq (k:Nat) (x0:Option Addr) (x1:Option Addr) (x2:Int) (σ:Aa):Bz k x0 x1 x2 σ=Gt k x0 x1 x2 σ:=by
 cases k with
 | zero=>simp only[Bz,Ab]; rfl
 | succ k=>rw[Ks,Iq,Gt]; simp only[DI,Rt,Qx,Bb,AU,Bf,Bc,Be,Bh,Bg,AY,Bi,Ap,A7,Bj,Ah,Ar,Aq,Ak]
noncomputable def ME (k:Nat) (x1:Option Addr) (x2:Int) (σ:Aa):Option (Value × Aa):=match k with
 | 0=>none
 | k+1=>(fP x1 fun x1=>fI x2 fun x2=>fL σ fun σ=>CF σ (.cells [] 153 true) fun h1 s2=>x1.bind fun a3=>(Gt k x1 (some ⟨a3.block,a3.off+3,none⟩) x2 s2).bind fun r4=>Xt r4.1 fun n5 b6=>fI n5 fun y7=>fB b6 fun y8=>some (.tuple #[.int .i64 y7,.bool y8],r4.2))
theorem Wg (k:Nat) (x1:Option Addr) (x2:Int) (σ:Aa):Dy k x1 x2 σ=ME k x1 x2 σ:=by
 cases k with
 | zero=>simp only[Dy,Ab]; rfl
 | succ k=>rw[NZ,Mq,ME]; simp only[Lq,Bb,AU,Bf,Bc,Be,Bh,Bg,AY,Bi,Ap,A7,Bj,Ah,Ar,Aq,Ak]
theorem UR (k:Nat) (x1:Option Addr) (x2:Int) (σ:Aa):fn P (XK Kn.b) H k 213 [.agg #[],.pointer x1,.int .i64 x2] σ=Dy k x1 x2 σ:=by
 simp only[Dy,Ab]
noncomputable def Ic (k n:Nat) (h0:Nat) (c1:Nat) (i2:Int) (x10:Int) (σ:Aa):Option Aw:=match n with
 | 0=>none
 | n+1=>(fN h0 fun h0=>fN c1 fun c1=>fI i2 fun i2=>fI x10 fun x10=>fL σ fun σ=>if (8:Int)=0 then none else bif decide (x10≤(Ac (i2.tdiv (8:Int)))) then (if 0≤x10∧x10<(c1:Nat) then Wt σ h0 (0+x10.toNat*1) (.bool true) fun s11=>Ic k n h0 c1 i2 (Ac (x10+(1:Int))) s11 else none) else (some (.exit 2,[],σ)))
termination_by structural n
theorem Oj (k n:Nat) (h0:Nat) (c1:Nat) (i2:Int) (x10:Int) (σ:Aa):Dp k n h0 c1 i2 x10 σ=Ic k n h0 c1 i2 x10 σ:=by
 induction n generalizing h0 c1 i2 x10 σ with
 | zero=>simp only[Dp,Ab]; rfl
 | succ n ih=>rw[Jb,HI,Ic]; simp only[Gz,HW,F0,ih,Bb,AU,Bf,Bc,Be,Bh,Bg,AY,Bi,Ap,A7,Bj,Ah,Ar,Aq,Ak]
noncomputable def Ib (k n:Nat) (p0:Option Addr) (h1:Nat) (c2:Nat) (p3:Option Addr) (c4:Nat) (c5:Nat) (i6:Int) (x20:Int) (σ:Aa):Option Aw:=match n with
 | 0=>none
 | n+1=>(fP p0 fun p0=>fN h1 fun h1=>fN c2 fun c2=>fP p3 fun p3=>fN c4 fun c4=>fN c5 fun c5=>fI i6 fun i6=>fI x20 fun x20=>fL σ fun σ=>bif decide (x20<i6) then (if 0≤x20∧x20<(c4:Nat) then p3.bind fun a7=>(Ai .i64 σ a7.block (a7.off+x20.toNat*1)).bind fun n8=>if (64:Int)=0 then none else if (64:Int)=0 then none else (Hb k p0 n8 σ).bind fun r9=>(BG .i64 r9.1).bind fun n10=>if (8:Int)=0 then none else (Ic k k h1 c2 (Ac ((Ac ((n8.tmod (64:Int))+n10))-(1:Int))) (Ac ((n8.tmod (64:Int)).tdiv (8:Int))) r9.2).bind fun r12=>if r12.1 = .exit 2 then (Ib k n p0 h1 c2 p3 c4 c5 i6 (Ac (x20+(1:Int))) r12.2.2) else none else none) else (some (.exit 0,[],σ)))
termination_by structural n
theorem UC (k n:Nat) (p0:Option Addr) (h1:Nat) (c2:Nat) (p3:Option Addr) (c4:Nat) (c5:Nat) (i6:Int) (x20:Int) (σ:Aa):Dn k n p0 h1 c2 p3 c4 c5 i6 x20 σ=Ib k n p0 h1 c2 p3 c4 c5 i6 x20 σ:=by
 induction n generalizing p0 h1 c2 p3 c4 c5 i6 x20 σ with
 | zero=>simp only[Dn,Ab]; rfl
 | succ n ih=>rw[Ja,HH,Ib]; simp only[Gz,HW,F0,Oj,ih,Bb,AU,Bf,Bc,Be,Bh,Bg,AY,Bi,Ap,A7,Bj,Ah,Ar,Aq,Ak]
noncomputable def NO (k:Nat) (x0:Option Addr) (x1:Int) (σ:Aa):Option (Value × Aa):=match k with
 | 0=>none
 | k+1=>(fP x0 fun x0=>fI x1 fun x1=>fL σ fun σ=>(Lm k x0 x1 σ).bind fun r1=>(DW r1.1).bind fun b2=>bif !b2 then (some (.slice none 0 0,r1.2)) else (if 0≤(8:Int)∧(8:Int)≤(8:Int)∧(8:Int)*(1:Nat)≤2 ^ 40∧(8:Int)≤2 ^ 40 then CF r1.2 (.cells (rep (8:Int).toNat [.bool false]) 4 true) fun h3 s4=>(IH k x0 x1 s4).bind fun r5=>(GJ r5.1).bind fun l6=>(Ib k k x0 h3 ((8:Int).toNat) l6.1 l6.2.1 l6.2.2 ((l6.2.1:Nat):Int) (0:Int) r5.2).bind fun r13=>if r13.1 = .exit 0 then (some (.slice (some ⟨h3,0,none⟩) ((8:Int).toNat) ((8:Int).toNat),r13.2.2)) else none else none))
theorem JE (k:Nat) (x0:Option Addr) (x1:Int) (σ:Aa):DZ k x0 x1 σ=NO k x0 x1 σ:=by
 cases k with
 | zero=>simp only[DZ,Ab]; rfl
 | succ k=>rw[HP,HG,NO]; simp only[Gz,HW,F0,Oj,UC,Bb,AU,Bf,Bc,Be,Bh,Bg,AY,Bi,Ap,A7,Bj,Ah,Ar,Aq,Ak]
noncomputable def FO (k n:Nat) (p0:Option Addr) (c1:Nat) (c2:Nat) (x8:Int) (σ:Aa):Option Aw:=match n with
 | 0=>none
 | n+1=>(fP p0 fun p0=>fN c1 fun c1=>fN c2 fun c2=>fI x8 fun x8=>fL σ fun σ=>(bif decide (x8<((c1:Nat):Int)) then if 0≤x8∧x8<(c1:Nat) then p0.bind fun a11=>(X4 σ a11.block (a11.off+x8.toNat*1)).bind fun b12=>some (!b12,σ) else none else some (false,σ)).bind fun r13=>bif r13.1 then (FO k n p0 c1 c2 (Ac (x8+(1:Int))) r13.2) else (some (.exit 4,[.int .i64 x8],r13.2)))
termination_by structural n
theorem He (k n:Nat) (p0:Option Addr) (c1:Nat) (c2:Nat) (x8:Int) (σ:Aa):Cd k n p0 c1 c2 x8 σ=FO k n p0 c1 c2 x8 σ:=by
 induction n generalizing p0 c1 c2 x8 σ with
 | zero=>simp only[Cd,Ab]; rfl
 | succ n ih=>rw[GD,FF,FO]; simp only[JE,DI,CB,ih,Bb,AU,Bf,Bc,Be,Bh,Bg,AY,Bi,Ap,A7,Bj,Ah,Ar,Aq,Ak]
noncomputable def FN (k n:Nat) (p0:Option Addr) (h1:Nat) (i2:Int) (p3:Option Addr) (c4:Nat) (c5:Nat) (x7:Int) (σ:Aa):Option Aw:=match n with
 | 0=>none
 | n+1=>(fP p0 fun p0=>fN h1 fun h1=>fI i2 fun i2=>fP p3 fun p3=>fN c4 fun c4=>fN c5 fun c5=>fI x7 fun x7=>fL σ fun σ=>bif decide (x7<((c4:Nat):Int)) then ((FO k k p3 c4 c5 x7 σ).bind fun r14=>if r14.1 = .exit 4 then (Uj r14.2.1 fun n15=>(bif decide (n15>x7) then p0.bind fun a16=>(Ai .i64 r14.2.2 a16.block (a16.off+3+1)).bind fun n17=>some (decide ((Ac ((Ac (i2*(64:Int)))+(Ac (x7*(8:Int)))))≥n17),r14.2.2) else some (false,r14.2.2)).bind fun r18=>bif r18.1 then (Ug r18.2 h1 0 [.int .i64 (Ac ((Ac (i2*(64:Int)))+(Ac (x7*(8:Int))))),.int .i64 (Ac ((Ac (i2*(64:Int)))+(Ac (n15*(8:Int)))))] fun s19=>some (.ret,[.bool true],s19)) else (FN k n p0 h1 i2 p3 c4 c5 (Ac ((if n15>x7 then n15 else x7)+(1:Int))) r18.2)) else none) else (some (.exit 2,[],σ)))
termination_by structural n
theorem KB (k n:Nat) (p0:Option Addr) (h1:Nat) (i2:Int) (p3:Option Addr) (c4:Nat) (c5:Nat) (x7:Int) (σ:Aa):Cc k n p0 h1 i2 p3 c4 c5 x7 σ=FN k n p0 h1 i2 p3 c4 c5 x7 σ:=by
 induction n generalizing p0 h1 i2 p3 c4 c5 x7 σ with
 | zero=>simp only[Cc,Ab]; rfl
 | succ n ih=>rw[JN,Hz,FN]; simp only[JE,DI,CB,He,ih,Bb,AU,Bf,Bc,Be,Bh,Bg,AY,Bi,Ap,A7,Bj,Ah,Ar,Aq,Ak]
noncomputable def FM (k n:Nat) (p0:Option Addr) (h1:Nat) (p2:Option Addr) (c3:Nat) (c4:Nat) (i5:Int) (x13:Int) (σ:Aa):Option Aw:=match n with
 | 0=>none
 | n+1=>(fP p0 fun p0=>fN h1 fun h1=>fP p2 fun p2=>fN c3 fun c3=>fN c4 fun c4=>fI i5 fun i5=>fI x13 fun x13=>fL σ fun σ=>bif decide (x13<i5) then (if 0≤x13∧x13<(c3:Nat) then p2.bind fun a5=>(Ai .i64 σ a5.block (a5.off+x13.toNat*1)).bind fun n6=>p0.bind fun a7=>(Js σ a7.block (a7.off+0)).bind fun p8=>(NO k p8 n6 σ).bind fun r9=>(GJ r9.1).bind fun l10=>(FN k k p0 h1 n6 l10.1 l10.2.1 l10.2.2 (0:Int) r9.2).bind fun r20=>if r20.1 = .exit 2 then (FM k n p0 h1 p2 c3 c4 i5 (Ac (x13+(1:Int))) r20.2.2) else if r20.1 = .ret then (nX r20.2.1 fun b21=>some (.ret,[.bool b21],r20.2.2)) else none else none) else (some (.exit 0,[],σ)))
termination_by structural n
theorem Qw (k n:Nat) (p0:Option Addr) (h1:Nat) (p2:Option Addr) (c3:Nat) (c4:Nat) (i5:Int) (x13:Int) (σ:Aa):BF k n p0 h1 p2 c3 c4 i5 x13 σ=FM k n p0 h1 p2 c3 c4 i5 x13 σ:=by
 induction n generalizing p0 h1 p2 c3 c4 i5 x13 σ with
 | zero=>simp only[BF,Ab]; rfl
 | succ n ih=>rw[GC,FE,FM]; simp only[JE,DI,CB,He,KB,ih,Bb,AU,Bf,Bc,Be,Bh,Bg,AY,Bi,Ap,A7,Bj,Ah,Ar,Aq,Ak]
noncomputable def JI (k:Nat) (x0:Option Addr) (σ:Aa):Option (Value × Aa):=match k with
 | 0=>none
 | k+1=>(fP x0 fun x0=>fL σ fun σ=>CF σ (.cells [.int .i64 (0:Int),.int .i64 (0:Int)] 120 true) fun h1 s2=>(Gs k x0 s2).bind fun r3=>(GJ r3.1).bind fun l4=>(FM k k x0 h1 l4.1 l4.2.1 l4.2.2 ((l4.2.1:Nat):Int) (0:Int) r3.2).bind fun r22=>if r22.1 = .exit 0 then ((Ff k x0 r22.2.2).bind fun r23=>(ZV r23.1).bind fun q24=>if q24.length=2 then q24.head?.bind fun v25=>dw v25 fun n26 n27=>q24.tail.head?.bind fun v28=>(DW v28).bind fun b29=>Ug r23.2 h1 0 [.int .i64 n26,.int .i64 n27] fun s30=>(((To s30 h1 0 2).bind fun v31=>some (.agg v31.toArray)).bind fun v32=>some [v32,.bool b29]).bind fun vs33=>some (Ra vs33,s30) else none) else if r22.1 = .ret then (nX r22.2.1 fun b34=>(((To r22.2.2 h1 0 2).bind fun v35=>some (.agg v35.toArray)).bind fun v36=>some [v36,.bool b34]).bind fun vs37=>some (Ra vs37,r22.2.2)) else none)
theorem SA (k:Nat) (x0:Option Addr) (σ:Aa):CG k x0 σ=JI k x0 σ:=by
 cases k with
 | zero=>simp only[CG,Ab]; rfl
 | succ k=>rw[Lt,J0,JI]; simp only[JE,DI,CB,He,KB,Qw,Bb,AU,Bf,Bc,Be,Bh,Bg,AY,Bi,Ap,A7,Bj,Ah,Ar,Aq,Ak]
noncomputable def LJ (k:Nat) (x1:Option Addr) (x2:Int) (σ:Aa):Option (Value × Aa):=match k with
 | 0=>none
 | k+1=>(fP x1 fun x1=>fI x2 fun x2=>fL σ fun σ=>CF σ (.cells [] 154 true) fun h1 s2=>x1.bind fun a3=>(Lk k (some ⟨a3.block,a3.off+3,none⟩) x2 s2).bind fun r4=>(DW r4.1).bind fun b5=>(bif b5 then (some (.normal,[],r4.2)) else (bif decide (x2>(8:Int)) then (x1.bind fun a6=>(Gt k x1 (some ⟨a6.block,a6.off+5,none⟩) x2 r4.2).bind fun r7=>Xt r7.1 fun n8 b9=>some (.ret,[.int .i64 n8,.bool b9],r7.2)) else ((JI k x1 r4.2).bind fun r10=>(ZV r10.1).bind fun q11=>if q11.length=2 then q11.head?.bind fun v12=>dw v12 fun n13 n14=>q11.tail.head?.bind fun v15=>(DW v15).bind fun b16=>CF r10.2 (.cells [.int .i64 (0:Int),.int .i64 (0:Int)] 120 true) fun h17 s18=>Ug s18 h17 0 [.int .i64 n13,.int .i64 n14] fun s19=>bif !b16 then (some (.ret,[.int .i64 (0:Int),.bool false],s19)) else ((Ai .i64 s19 h17 0).bind fun n20=>(Ai .i64 s19 h17 (0+1)).bind fun n21=>x1.bind fun a22=>Ug s19 a22.block (a22.off+3) [.int .i64 n20,.int .i64 n21] fun s23=>some (.normal,[],s23)) else none)):Option Aw).bind fun r24=>if r24.1 = .normal then (x1.bind fun a25=>(Ku k (some ⟨a25.block,a25.off+3,none⟩) x2 r24.2.2).bind fun r26=>(BG .i64 r26.1).bind fun n27=>fI n27 fun y28=>fB true fun y29=>some (.tuple #[.int .i64 y28,.bool y29],r26.2)) else if r24.1 = .ret then (dK r24.2.1 fun n30 b31=>fI n30 fun y32=>fB b31 fun y33=>some (.tuple #[.int .i64 y32,.bool y33],r24.2.2)) else none)
theorem UT (k:Nat) (x1:Option Addr) (x2:Int) (σ:Aa):CZ k x1 x2 σ=LJ k x1 x2 σ:=by
 cases k with
 | zero=>simp only[CZ,Ab]; rfl
 | succ k=>rw[N7,L7,LJ]; simp only[Lq,Rt,Qx,SA,Bb,AU,Bf,Bc,Be,Bh,Bg,AY,Bi,Ap,A7,Bj,Ah,Ar,Aq,Ak]
theorem Uz (k:Nat) (x1:Option Addr) (x2:Int) (σ:Aa):fn P (XK Kn.b) H k 217 [.agg #[],.pointer x1,.int .i64 x2] σ=CZ k x1 x2 σ:=by
 simp only[CZ,Ab]
noncomputable def OV (k:Nat) (n:FuncId) (l:List Value) (σ:Aa):Option (Value × Aa):=
 if n=99 then (match l with
  | [.pointer y1,.int .i64 y2]=>Jl k y1 y2 σ
  | l=>fn P (XK Kn.b) H k 99 l σ) else
 if n=199 then (match l with
  | [.agg ⟨[]⟩,.pointer y1,.int .i64 y2]=>LI k y1 y2 σ
  | l=>fn P (XK Kn.b) H k 199 l σ) else
 if n=204 then (match l with
  | [.agg ⟨[]⟩,.pointer y1,.int .i64 y2]=>MD k y1 y2 σ
  | l=>fn P (XK Kn.b) H k 204 l σ) else
 if n=212 then (match l with
  | [.agg ⟨[]⟩,.pointer y1,.int .i64 y2]=>MF k y1 y2 σ
  | l=>fn P (XK Kn.b) H k 212 l σ) else
 if n=213 then (match l with
  | [.agg ⟨[]⟩,.pointer y1,.int .i64 y2]=>ME k y1 y2 σ
  | l=>fn P (XK Kn.b) H k 213 l σ) else
 if n=217 then (match l with
  | [.agg ⟨[]⟩,.pointer y1,.int .i64 y2]=>LJ k y1 y2 σ
  | l=>fn P (XK Kn.b) H k 217 l σ) else
 fn P (XK Kn.b) H k n l σ
theorem bA (k:Nat) (n:FuncId) (l:List Value) (σ:Aa):fn P (XK Kn.b) H k n l σ=OV k n l σ:=by
 unfold OV
 split
 ·rename_i hn; subst hn
  split
  ·exact (Rk k _ _ σ).trans (Sc k _ _ σ)
  ·rfl
 split
 ·rename_i hn; subst hn
  split
  ·exact (Uy k _ _ σ).trans (US k _ _ σ)
  ·rfl
 split
 ·rename_i hn; subst hn
  split
  ·exact (UQ k _ _ σ).trans (Wf k _ _ σ)
  ·rfl
 split
 ·rename_i hn; subst hn
  split
  ·exact (UU k _ _ σ).trans (Wh k _ _ σ)
  ·rfl
 split
 ·rename_i hn; subst hn
  split
  ·exact (UR k _ _ σ).trans (Wg k _ _ σ)
  ·rfl
 split
 ·rename_i hn; subst hn
  split
  ·exact (Uz k _ _ σ).trans (UT k _ _ σ)
  ·rfl
 rfl
noncomputable def Sr (k:Nat) (f:Value) (args:List Value) (σ:Aa):Option (Value × Aa):=match f with
 | .func (.func n) first cap=>OV k n (first.toList++args++cap.toList) σ
 | .func (.method nm) first _=>(match first.toList++args with
   | .iface t v::rest=>(TJ P t nm).bind fun n=>OV k n (v::rest) σ
   | _=>none)
 | _=>none
theorem bB (k:Nat) (f:Value) (args:List Value) (σ:Aa):Ck k f args σ=Sr k f args σ:=by
 simp only[Ck,Ab]
 unfold OS Sr
 simp only[bA]
 rfl
noncomputable def Bv (k:Nat) (x0:Option Addr) (x1_0:Int) (x1_1:Int) (x1_2:Int) (σ:Aa):Option (Value × Aa):=match k with
 | 0=>none
 | k+1=>(fP x0 fun x0=>fI x1_0 fun x1_0=>fI x1_1 fun x1_1=>fI x1_2 fun x1_2=>fL σ fun σ=>CF σ (.cells [.int .i64 x1_0,.int .i64 x1_1,.int .i64 x1_2] 33 true) fun h1 s2=>(JJ k x0 s2).bind fun r3=>(DW r3.1).bind fun b4=>bif !b4 then (fI (0:Int) fun y5=>fI (5:Int) fun y6=>some (.tuple #[.int .i64 y5,.int .i64 y6],r3.2)) else ((Ai .i64 r3.2 h1 0).bind fun n7=>(Ai .i64 r3.2 h1 (0+1)).bind fun n8=>(Ai .i64 r3.2 h1 (0+1+1)).bind fun n9=>(NQ k n7 n8 n9 r3.2).bind fun r10=>(DW r10.1).bind fun b11=>bif !b11 then (fI (0:Int) fun y12=>fI (2:Int) fun y13=>some (.tuple #[.int .i64 y12,.int .i64 y13],r10.2)) else ((Ai .i64 r10.2 h1 0).bind fun n14=>(Ai .i64 r10.2 h1 (0+1)).bind fun n15=>(Ai .i64 r10.2 h1 (0+1+1)).bind fun n16=>(NR k n14 n15 n16 r10.2).bind fun r17=>(BG .i64 r17.1).bind fun n18=>(Ll k  r17.2).bind fun r19=>(GJ r19.1).bind fun l20=>x0.bind fun a21=>(Ai .i64 r19.2 a21.block (a21.off+2)).bind fun n22=>if 0≤n22∧n22<(l20.2.1:Nat) then l20.1.bind fun a23=>(G0 r19.2 a23.block (a23.off+n22.toNat*1)).bind fun v24=>pv v24 fun v25=>(bif decide (n18>(32:Int)) then (some (.normal,[.func (.func 99) #[] #[]],r19.2)) else (some (.normal,[(.func (.method "dustcart/alloc.place") #[v25] #[])],r19.2)):Option Aw).bind fun r26=>if r26.1 = .normal then (tJ r26.2.1 fun f27=>x0.bind fun a28=>(Js r26.2.2 a28.block a28.off).bind fun p29=>(Ai .i64 r26.2.2 a28.block (a28.off+1)).bind fun n30=>(Ai .i64 r26.2.2 a28.block (a28.off+1+1)).bind fun n31=>(Ai .i64 r26.2.2 a28.block (a28.off+1+1+1)).bind fun n32=>(Ai .i64 r26.2.2 a28.block (a28.off+1+1+1+1)).bind fun n33=>(Ai .i64 r26.2.2 a28.block (a28.off+1+1+1+1+1)).bind fun n34=>(Ai .i64 r26.2.2 a28.block (a28.off+1+1+1+1+1+1)).bind fun n35=>CF r26.2.2 (.cells [.pointer none,.int .i64 (0:Int),.int .i64 (0:Int),.int .i64 (0:Int),.int .i64 (0:Int),.int .i64 (0:Int),.int .i64 (0:Int)] 122 true) fun h36 s37=>Ug s37 h36 0 [.pointer p29,.int .i64 n30,.int .i64 n31,.int .i64 n32,.int .i64 n33,.int .i64 n34,.int .i64 n35] fun s38=>(Sr k f27 [.pointer x0,.int .i64 n18] s38).bind fun r39=>Xt r39.1 fun n40 b41=>bif !b41 then (fI (0:Int) fun y42=>fI (6:Int) fun y43=>some (.tuple #[.int .i64 y42,.int .i64 y43],r39.2)) else (x0.bind fun a44=>(Js r39.2 a44.block (a44.off+0)).bind fun p45=>if (64:Int)=0 then none else (Kx k p45 (Ac (n40.tdiv (64:Int))) r39.2).bind fun r46=>(BG .i64 r46.1).bind fun n47=>x0.bind fun a48=>(Ai .i64 r46.2 a48.block (a48.off+1)).bind fun n49=>(bif n47 == n49 then (x0.bind fun a50=>(Js r46.2 a50.block (a50.off+0)).bind fun p51=>(Ai .i64 r46.2 h1 0).bind fun n52=>(Ai .i64 r46.2 h1 (0+1)).bind fun n53=>(Ai .i64 r46.2 h1 (0+1+1)).bind fun n54=>(Kw k p51 n40 n52 n53 n54 r46.2).bind fun r55=>Gr r55.1 fun n56 n57=>some (.normal,[.int .i64 n57],r55.2)) else (some (.normal,[.int .i64 (5:Int)],r46.2)):Option Aw).bind fun r58=>if r58.1 = .normal then (Uj r58.2.1 fun n59=>bif n59 != (0:Int) then ((Js r58.2.2 h36 0).bind fun p60=>(Ai .i64 r58.2.2 h36 (0+1)).bind fun n61=>(Ai .i64 r58.2.2 h36 (0+1+1)).bind fun n62=>(Ai .i64 r58.2.2 h36 (0+1+1+1)).bind fun n63=>(Ai .i64 r58.2.2 h36 (0+1+1+1+1)).bind fun n64=>(Ai .i64 r58.2.2 h36 (0+1+1+1+1+1)).bind fun n65=>(Ai .i64 r58.2.2 h36 (0+1+1+1+1+1+1)).bind fun n66=>x0.bind fun a67=>Ug r58.2.2 a67.block a67.off [.pointer p60,.int .i64 n61,.int .i64 n62,.int .i64 n63,.int .i64 n64,.int .i64 n65,.int .i64 n66] fun s68=>fI (0:Int) fun y69=>fI (6:Int) fun y70=>some (.tuple #[.int .i64 y69,.int .i64 y70],s68)) else (fI n40 fun y71=>fI (0:Int) fun y72=>some (.tuple #[.int .i64 y71,.int .i64 y72],r58.2.2))) else none)) else none else none)))
theorem Sb (k:Nat) (x0:Option Addr) (x1_0:Int) (x1_1:Int) (x1_2:Int) (σ:Aa):AL k x0 x1_0 x1_1 x1_2 σ=Bv k x0 x1_0 x1_1 x1_2 σ:=by
 cases k with
 | zero=>simp only[AL,Ab]; rfl
 | succ k=>rw[KL,IP,Bv]; simp only[Sn,Sl,M5,QQ,SB,Ru,bB,Bb,AU,Bf,Bc,Be,Bh,Bg,AY,Bi,Ap,A7,Bj,Ah,Ar,Aq,Ak]
noncomputable def RT (k:Nat) (x0:Option Addr) (x1:Int) (x2:Int) (σ:Aa):Option (Value × Aa):=match k with
 | 0=>none
 | k+1=>(fP x0 fun x0=>fI x1 fun x1=>fI x2 fun x2=>fL σ fun σ=>(Eu k x0 σ).bind fun r1=>(BG .i64 r1.1).bind fun n2=>(bif n2 == (0:Int) then some (true,r1.2) else some (decide (x1<(0:Int)),r1.2)).bind fun r3=>(bif r3.1 then some (true,r3.2) else some (decide (x1≥(8:Int)),r3.2)).bind fun r4=>(bif r4.1 then some (true,r4.2) else some (decide (x2<(0:Int)),r4.2)).bind fun r5=>(bif r5.1 then some (true,r5.2) else (Ll k  r5.2).bind fun r6=>(GJ r6.1).bind fun l7=>some (decide (x2≥((l7.2.1:Nat):Int)),r6.2)).bind fun r8=>bif r8.1 then (fI (1:Int) fun y9=>some (.tuple #[.pointer none,.int .i64 y9],r8.2)) else (CF r8.2 (.cells [.pointer x0,.int .i64 x1,.int .i64 x2,.int .i64 (0:Int),.int .i64 (0:Int),.int .i64 (0:Int),.int .i64 (0:Int)] 122 true) fun h10 s11=>fI (0:Int) fun y12=>some (.tuple #[.pointer (some ⟨h10,0,none⟩),.int .i64 y12],s11)))
theorem gk (k:Nat) (x0:Option Addr) (x1:Int) (x2:Int) (σ:Aa):GW k x0 x1 x2 σ=RT k x0 x1 x2 σ:=by
 cases k with
 | zero=>simp only[GW,Ab]; rfl
 | succ k=>rw[Vc,UY,RT]; simp only[Dd,Ru,Bb,AU,Bf,Bc,Be,Bh,Bg,AY,Bi,Ap,A7,Bj,Ah,Ar,Aq,Ak]
noncomputable def ON (k:Nat) (x0:Option Addr) (x1:Int) (σ:Aa):Option (Value × Aa):=match k with
 | 0=>none
 | k+1=>(fP x0 fun x0=>fI x1 fun x1=>fL σ fun σ=>(JL k x0 x1 σ).bind fun r1=>(DW r1.1).bind fun b2=>bif !b2 then (fI (-1:Int) fun y3=>some (.int .i64 y3,r1.2)) else ((Jn k x0 x1 r1.2).bind fun r4=>(BG .i64 r4.1).bind fun n5=>fI n5 fun y6=>some (.int .i64 y6,r4.2)))
theorem Ys (k:Nat) (x0:Option Addr) (x1:Int) (σ:Aa):Gc k x0 x1 σ=ON k x0 x1 σ:=by
 cases k with
 | zero=>simp only[Gc,Ab]; rfl
 | succ k=>rw[PV,O5,ON]; simp only[Qc,Ij,Bb,AU,Bf,Bc,Be,Bh,Bg,AY,Bi,Ap,A7,Bj,Ah,Ar,Aq,Ak]
noncomputable def PF (k:Nat) (x0:Option Addr) (x1:Int) (σ:Aa):Option (Value × Aa):=match k with
 | 0=>none
 | k+1=>(fP x0 fun x0=>fI x1 fun x1=>fL σ fun σ=>(DN k x0 σ).bind fun r1=>(DW r1.1).bind fun b2=>(bif b2 then some (decide (x1≥(0:Int)),r1.2) else some (false,r1.2)).bind fun r3=>(bif r3.1 then if (2:Int)=0 then none else some ((x1.tmod (2:Int)) == (0:Int),r3.2) else some (false,r3.2)).bind fun r4=>(bif r4.1 then x0.bind fun a5=>(Js r4.2 a5.block (a5.off+2)).bind fun p6=>if (2:Int)=0 then none else (ON k p6 (Ac (x1.tdiv (2:Int))) r4.2).bind fun r7=>(BG .i64 r7.1).bind fun n8=>some (n8 == (1:Int),r7.2) else some (false,r4.2)).bind fun r9=>fB r9.1 fun y10=>some (.bool y10,r9.2))
theorem YZ (k:Nat) (x0:Option Addr) (x1:Int) (σ:Aa):GF k x0 x1 σ=PF k x0 x1 σ:=by
 cases k with
 | zero=>simp only[GF,Ab]; rfl
 | succ k=>rw[QG,P6,PF]; simp only[Eb,Ys,Bb,AU,Bf,Bc,Be,Bh,Bg,AY,Bi,Ap,A7,Bj,Ah,Ar,Aq,Ak]
noncomputable def MG (k:Nat) (x0:Option Addr) (x1:Int) (σ:Aa):Option (Value × Aa):=match k with
 | 0=>none
 | k+1=>(fP x0 fun x0=>fI x1 fun x1=>fL σ fun σ=>(DN k x0 σ).bind fun r1=>(DW r1.1).bind fun b2=>bif !b2 then (fI (5:Int) fun y3=>some (.int .i64 y3,r1.2)) else ((PF k x0 x1 r1.2).bind fun r4=>(DW r4.1).bind fun b5=>bif !b5 then (fI (4:Int) fun y6=>some (.int .i64 y6,r4.2)) else (fI (0:Int) fun y7=>some (.int .i64 y7,r4.2))))
theorem Wp (k:Nat) (x0:Option Addr) (x1:Int) (σ:Aa):D1 k x0 x1 σ=MG k x0 x1 σ:=by
 cases k with
 | zero=>simp only[D1,Ab]; rfl
 | succ k=>rw[Oc,Mt,MG]; simp only[Eb,YZ,Bb,AU,Bf,Bc,Be,Bh,Bg,AY,Bi,Ap,A7,Bj,Ah,Ar,Aq,Ak]
noncomputable def OM (k:Nat) (x0:Option Addr) (x1:Int) (x2:Int) (σ:Aa):Option (Value × Aa):=match k with
 | 0=>none
 | k+1=>(fP x0 fun x0=>fI x1 fun x1=>fI x2 fun x2=>fL σ fun σ=>x0.bind fun a1=>(En σ a1.block (a1.off+1)).bind fun l2=>(Le 3 1 (l2.1,l2.2.1,l2.2.2) (some (.int .i64 x1)) (some (.int .i64 (Ac (x1+x2)))) none σ).bind fun l3=>(if l3.2.1=0 then some σ else l3.1.bind fun a5=>K8 σ a5.block a5.off (rep l3.2.1 [.int .i64 (0:Int)])).bind fun s4=>td s4 fun s4=>some (.tuple #[],s4))
theorem XX (k:Nat) (x0:Option Addr) (x1:Int) (x2:Int) (σ:Aa):FY k x0 x1 x2 σ=OM k x0 x1 x2 σ:=by
 cases k with
 | zero=>simp only[FY,Ab]; rfl
 | succ k=>rw[PT,O1,OM]; simp only[Bb,AU,Bf,Bc,Be,Bh,Bg,AY,Bi,Ap,A7,Bj,Ah,Ar,Aq,Ak]
noncomputable def OJ (k:Nat) (x0:Option Addr) (x1:Int) (σ:Aa):Option (Value × Aa):=match k with
 | 0=>none
 | k+1=>(fP x0 fun x0=>fI x1 fun x1=>fL σ fun σ=>(MG k x0 x1 σ).bind fun r1=>(BG .i64 r1.1).bind fun n2=>bif n2 != (0:Int) then (fI n2 fun y3=>some (.int .i64 y3,r1.2)) else (x0.bind fun a4=>(nk r1.2 a4.block (a4.off+4)).bind fun m5=>x0.bind fun a6=>(En r1.2 a6.block (a6.off+1)).bind fun l7=>if 0≤x1∧x1<(l7.2.1:Nat) then l7.1.bind fun a8=>(Ai .i64 r1.2 a8.block (a8.off+x1.toNat*1)).bind fun n9=>(g7 r1.2 m5).bind fun es10=>td (jB r1.2 m5 (MA n9 es10)) fun s11=>x0.bind fun a12=>(Js s11 a12.block (a12.off+2)).bind fun p13=>if (2:Int)=0 then none else (Jm k p13 (Ac (x1.tdiv (2:Int))) (0:Int) s11).bind fun r14=>(BG .i64 r14.1).bind fun n15=>x0.bind fun a16=>(Js r14.2 a16.block (a16.off+3)).bind fun p17=>if (2:Int)=0 then none else (Jm k p17 (Ac (x1.tdiv (2:Int))) (0:Int) r14.2).bind fun r18=>(BG .i64 r18.1).bind fun n19=>(Hb k x0 x1 r18.2).bind fun r20=>(BG .i64 r20.1).bind fun n21=>(OM k x0 x1 n21 r20.2).bind fun r22=>UK r22.1 (fI (0:Int) fun y23=>some (.int .i64 y23,r22.2)) else none))
theorem XV (k:Nat) (x0:Option Addr) (x1:Int) (σ:Aa):DL k x0 x1 σ=OJ k x0 x1 σ:=by
 cases k with
 | zero=>simp only[DL,Ab]; rfl
 | succ k=>rw[PM,Ow,OJ]; simp only[Wp,F0,RX,XX,Bb,AU,Bf,Bc,Be,Bh,Bg,AY,Bi,Ap,A7,Bj,Ah,Ar,Aq,Ak]
noncomputable def St (k:Nat)  (σ:Aa):Option (Value × Aa):=match k with
 | 0=>none
 | k+1=>(fL σ fun σ=>(TT k (4:Int) σ).bind fun r1=>UF r1.1 fun p2 n3=>(RT k p2 (0:Int) (0:Int) r1.2).bind fun r4=>UF r4.1 fun p5 n6=>(SO P 42 (.pointer p5) (.pointer none)).bind fun e7=>(bif e7 then some (true,r4.2) else some (n6 != (0:Int),r4.2)).bind fun r8=>bif r8.1 then (fB false fun y9=>some (.bool y9,r8.2)) else ((Bv k p5 (0:Int) (4:Int) (0:Int) r8.2).bind fun r10=>Gr r10.1 fun n11 n12=>(Bv k p5 (0:Int) (0:Int) (0:Int) r10.2).bind fun r13=>Gr r13.1 fun n14 n15=>(Bv k p5 (0:Int) (4:Int) (0:Int) r13.2).bind fun r16=>Gr r16.1 fun n17 n18=>(OJ k p2 (64:Int) r16.2).bind fun r19=>(BG .i64 r19.1).bind fun n20=>(Bv k p5 (0:Int) (2:Int) (0:Int) r19.2).bind fun r21=>Gr r21.1 fun n22 n23=>(Bv k p5 (0:Int) (2:Int) (0:Int) r21.2).bind fun r24=>Gr r24.1 fun n25 n26=>(bif n11 != (64:Int) then some (true,r24.2) else some (n12 != (0:Int),r24.2)).bind fun r27=>(bif r27.1 then some (true,r27.2) else some (n14 != (70:Int),r27.2)).bind fun r28=>(bif r28.1 then some (true,r28.2) else some (n17 != (72:Int),r28.2)).bind fun r29=>(bif r29.1 then some (true,r29.2) else some (n22 != (64:Int),r29.2)).bind fun r30=>(bif r30.1 then some (true,r30.2) else some (n25 != (78:Int),r30.2)).bind fun r31=>bif r31.1 then (fB false fun y32=>some (.bool y32,r31.2)) else ((TT k (4:Int) r31.2).bind fun r33=>UF r33.1 fun p34 n35=>(Kv k p34 (1:Int) (0:Int) r33.2).bind fun r36=>(BG .i64 r36.1).bind fun n37=>(Kw k p34 (72:Int) (0:Int) (6:Int) (0:Int) r36.2).bind fun r38=>Gr r38.1 fun n39 n40=>(RT k p34 (0:Int) (4:Int) r38.2).bind fun r41=>UF r41.1 fun p42 n43=>(Bv k p42 (0:Int) (6:Int) (0:Int) r41.2).bind fun r44=>Gr r44.1 fun n45 n46=>(Bv k p42 (0:Int) (6:Int) (0:Int) r44.2).bind fun r47=>Gr r47.1 fun n48 n49=>(Bv k p42 (0:Int) (30:Int) (0:Int) r47.2).bind fun r50=>Gr r50.1 fun n51 n52=>(Bv k p42 (0:Int) (8:Int) (0:Int) r50.2).bind fun r53=>Gr r53.1 fun n54 n55=>(bif n45 == (64:Int) then some (n48 == (80:Int),r53.2) else some (false,r53.2)).bind fun r56=>(bif r56.1 then some (n54 == (128:Int),r56.2) else some (false,r56.2)).bind fun r57=>(bif r57.1 then some (n55 == (0:Int),r57.2) else some (false,r57.2)).bind fun r58=>fB r58.1 fun y59=>some (.bool y59,r58.2))))
theorem cj (k:Nat)  (σ:Aa):Fp k  σ=St k  σ:=by
 cases k with
 | zero=>simp only[Fp,Ab]; rfl
 | succ k=>rw[Vg,Ww,St]; simp only[iR,Sb,gk,M1,QQ,XV,Bb,AU,Bf,Bc,Be,Bh,Bg,AY,Bi,Ap,A7,Bj,Ah,Ar,Aq,Ak]
end Go.Proofs.YtlaplcglpnlieaaGreat
