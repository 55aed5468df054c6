/-
 PRINTED BY A PROGRAM OF THIS SESSION'S OWN (gen2.py): the unfolding equations.
-/
import Derived.Test.YtlaplcglpnlieaaGreatP9
set_option maxRecDepth 100000
set_option linter.unusedVariables false
set_option linter.unusedSimpArgs false
set_option linter.unusedSectionVars false
namespace Go.Proofs.YtlaplcglpnlieaaGreat
open Go Go.AX
section
variable [AK] [Kn]
theorem Ly (k n:Nat) (p0:Option Addr) (c1:Nat) (c2:Nat) (i3:Int) (p4:Option Addr) (c5:Nat) (c6:Nat) (x32:Int) (x33:Int) (σ:Aa):E5 k (n+1) p0 c1 c2 i3 p4 c5 c6 x32 x33 σ=Jz k n (E5 k) p0 c1 c2 i3 p4 c5 c6 x32 x33 σ:=by
 simp only[E5,Ab]; kernel_rfl
theorem Lz (k n:Nat) (i0:Int) (p1:Option Addr) (c2:Nat) (c3:Nat) (p4:Option Addr) (c5:Nat) (c6:Nat) (x34:Int) (x35:Int) (σ:Aa):E6 k (n+1) i0 p1 c2 c3 p4 c5 c6 x34 x35 σ=J0 k n (E6 k) i0 p1 c2 c3 p4 c5 c6 x34 x35 σ:=by
 simp only[E6,Ab]; kernel_rfl
theorem T0 (k:Nat) (x0:Int) (x1:Int) (x2:Int) (x3:Option Addr × Nat × Nat) (x4_0:Int) (x4_1:Int) (x4_2:Int) (σ:Aa):I8 (k+1) x0 x1 x2 x3 x4_0 x4_1 x4_2 σ=PH k (AO k) (CQ k) (Es k) (EE k) (G4 k) (Bp k) (E4 k) (E5 k) (E6 k) (Fp k) (Lj k) (GH k) (J9 k) (Hm k) x0 x1 x2 x3 x4_0 x4_1 x4_2 σ:=by
 simp only[AO,CQ,Es,EE,G4,Bp,E4,I8,E5,E6,Fp,Lj,GH,J9,Hm,Ab]; kernel_rfl
theorem RU (k:Nat) (x0:Int) (σ:Aa):GF (k+1) x0 σ=Tn k (M9 k) x0 σ:=by
 simp only[GF,M9,Ab]; kernel_rfl
theorem bD (k:Nat) (x0:Int) (σ:Aa):KQ (k+1) x0 σ=Zy k  x0 σ:=by
 simp only[KQ,Ab]; kernel_rfl
theorem QC (k n:Nat) (p0:Option Addr) (c1:Nat) (c2:Nat) (p3:Option Addr) (p4:Option Addr) (p5:Option Addr) (p6:Option Addr) (x18:Int) (σ:Aa):GG k (n+1) p0 c1 c2 p3 p4 p5 p6 x18 σ=P8 k n (GG k) (ND k) p0 c1 c2 p3 p4 p5 p6 x18 σ:=by
 simp only[GG,ND,Ab]; kernel_rfl
theorem ZY (k:Nat) (x0:Int) (x1:Int) (x2:Int) (x3:Option Addr × Nat × Nat) (σ:Aa):Lj (k+1) x0 x1 x2 x3 σ=X3 k (GY k) (GF k) (Pk k) (LV k) (GG k) (KQ k) (KR k) x0 x1 x2 x3 σ:=by
 simp only[GY,GF,Pk,LV,Lj,GG,KQ,KR,Ab]; kernel_rfl
theorem Um (k:Nat) (x0_0:Int) (x0_1:Int) (x0_2:Int) (σ:Aa):E4 (k+1) x0_0 x0_1 x0_2 σ=Tp k (Fv k) x0_0 x0_1 x0_2 σ:=by
 simp only[Fv,E4,Ab]; kernel_rfl
theorem KK (k:Nat) (x0:Option Addr) (x1_0:Int) (x1_1:Int) (x1_2:Int) (σ:Aa):AO (k+1) x0 x1_0 x1_1 x1_2 σ=II k (B7 k) (DN k) (Cl k) (Cq k) (Bp k) (Fv k) (E4 k) x0 x1_0 x1_1 x1_2 σ:=by
 simp only[AO,B7,DN,Cl,Cq,Bp,Fv,E4,Ab]; kernel_rfl
theorem Ob (k:Nat) (x0:Option Addr) (σ:Aa):AH (k+1) x0 σ=Mz k (A8 k) x0 σ:=by
 simp only[AH,A8,Ab]; kernel_rfl
theorem Pg (k:Nat) (x0:Option Addr) (x1:Int) (σ:Aa):Dn (k+1) x0 x1 σ=Nv k (AH k) x0 x1 σ:=by
 simp only[AH,Dn,Ab]; kernel_rfl
theorem Ul (k:Nat) (x0_0:Int) (x0_1:Int) (x0_2:Int) (σ:Aa):Fv (k+1) x0_0 x0_1 x0_2 σ=To k  x0_0 x0_1 x0_2 σ:=by
 simp only[Fv,Ab]; kernel_rfl
theorem Qg (k:Nat) (x0:Option Addr) (σ:Aa):CQ (k+1) x0 σ=LQ k (B7 k) x0 σ:=by
 simp only[CQ,B7,Ab]; kernel_rfl
theorem Od (k n:Nat) (p0:Option Addr) (p1:Option Addr) (c2:Nat) (c3:Nat) (x3:Option Addr × Nat × Nat) (x5:Int) (σ:Aa):Ga k (n+1) p0 p1 c2 c3 x3 x5 σ=M4 k n (EE k) (Ga k) p0 p1 c2 c3 x3 x5 σ:=by
 simp only[EE,Ga,Ab]; kernel_rfl
theorem WY (k:Nat) (x0:Option Addr) (σ:Aa):GH (k+1) x0 σ=Uj k (HC k) (Ga k) x0 σ:=by
 simp only[HC,GH,Ga,Ab]; kernel_rfl
theorem Pn (k n:Nat) (p0:Option Addr) (x3:Option Addr × Nat × Nat) (x4:Int) (σ:Aa):G5 k (n+1) p0 x3 x4 σ=Ny k n (AH k) (Bp k) (Dn k) (G5 k) p0 x3 x4 σ:=by
 simp only[AH,Bp,Dn,G5,Ab]; kernel_rfl
theorem XD (k:Nat) (x0:Option Addr) (σ:Aa):Hm (k+1) x0 σ=Vb k (G5 k) x0 σ:=by
 simp only[Hm,G5,Ab]; kernel_rfl
theorem Uy (k:Nat) (x0:Option Addr) (σ:Aa):Es (k+1) x0 σ=Qw k (A8 k) x0 σ:=by
 simp only[Es,A8,Ab]; kernel_rfl
theorem QD (k n:Nat) (p0:Option Addr) (c1:Nat) (c2:Nat) (p3:Option Addr) (c4:Nat) (c5:Nat) (x5:Int) (σ:Aa):HD k (n+1) p0 c1 c2 p3 c4 c5 x5 σ=P9 k n (HD k) p0 c1 c2 p3 c4 c5 x5 σ:=by
 simp only[HD,Ab]; kernel_rfl
theorem aa (k:Nat) (x0:Option Addr × Nat × Nat) (x1:Option Addr × Nat × Nat) (σ:Aa):J9 (k+1) x0 x1 σ=X5 k (HD k) x0 x1 σ:=by
 simp only[J9,HD,Ab]; kernel_rfl
theorem Ve (k:Nat) (x0:Option Addr) (x1:Int) (σ:Aa):EE (k+1) x0 x1 σ=Rt k (Ct k) x0 x1 σ:=by
 simp only[EE,Ct,Ab]; kernel_rfl
theorem Vg (k:Nat) (x0:Option Addr) (x1:Int) (σ:Aa):G4 (k+1) x0 x1 σ=Rv k (Ct k) (GP k) x0 x1 σ:=by
 simp only[G4,Ct,GP,Ab]; kernel_rfl
theorem KO (k:Nat) (x0:Option Addr) (x1:Int) (σ:Aa):Bp (k+1) x0 x1 σ=Kq k (AH k) x0 x1 σ:=by
 simp only[AH,Bp,Ab]; kernel_rfl
theorem IW (k n:Nat) (h0:Nat) (c1:Nat) (i2:Int) (x10:Int) (σ:Aa):Du k (n+1) h0 c1 i2 x10 σ=HL k n (Du k) h0 c1 i2 x10 σ:=by
 simp only[Du,Ab]; kernel_rfl
theorem IV (k n:Nat) (p0:Option Addr) (h1:Nat) (c2:Nat) (p3:Option Addr) (c4:Nat) (c5:Nat) (i6:Int) (x20:Int) (σ:Aa):Dt k (n+1) p0 h1 c2 p3 c4 c5 i6 x20 σ=HK k n (Dt k) (Du k) (BX k) p0 h1 c2 p3 c4 c5 i6 x20 σ:=by
 simp only[Dt,Du,BX,Ab]; kernel_rfl
theorem HR (k:Nat) (x0:Option Addr) (x1:Int) (σ:Aa):Ea (k+1) x0 x1 σ=HJ k (Dt k) (Ci k) (BZ k) x0 x1 σ:=by
 simp only[Ea,Dt,Ci,BZ,Ab]; kernel_rfl
theorem YH (k:Nat) (x0:Option Addr × Nat × Nat) (σ:Aa):LV (k+1) x0 σ=Wv k  x0 σ:=by
 simp only[LV,Ab]; kernel_rfl
theorem bB (k:Nat) (x0:Int) (σ:Aa):Pk (k+1) x0 σ=Zw k  x0 σ:=by
 simp only[Pk,Ab]; kernel_rfl
theorem Vd (k:Nat) (x0:Option Addr) (x1:Int) (x2:Int) (σ:Aa):GY (k+1) x0 x1 x2 σ=Va k (DN k) (AH k) x0 x1 x2 σ:=by
 simp only[GY,DN,AH,Ab]; kernel_rfl
theorem bE (k:Nat) (x0:Option Addr) (x1:Int) (x2:Int) (σ:Aa):KR (k+1) x0 x1 x2 σ=Zz k (An k) x0 x1 x2 σ:=by
 simp only[An,KR,Ab]; kernel_rfl
theorem ZZ (k:Nat) (x0:Option Addr) (x1:Option Addr) (x2:Option Addr) (x3:Option Addr) (x4_0:Int) (x4_1:Int) (x4_2:Int) (x4_3:Int) (x4_4:Int) (x4_5:Int) (σ:Aa):ND (k+1) x0 x1 x2 x3 x4_0 x4_1 x4_2 x4_3 x4_4 x4_5 σ=X4 k (AO k) (EY k) (Cp k) (DO k) (Cq k) (FA k) (G3 k) (Pm k) (CR k) (Fw k) (D6 k) (Eu k) (ER k) (Em k) (Fc k) x0 x1 x2 x3 x4_0 x4_1 x4_2 x4_3 x4_4 x4_5 σ:=by
 simp only[AO,EY,Cp,DO,Cq,FA,G3,Pm,ND,CR,Fw,D6,Eu,ER,Em,Fc,Ab]; kernel_rfl
theorem Pe (k:Nat) (x0:Option Addr) (x1:Int) (x2:Int) (σ:Aa):Cp (k+1) x0 x1 x2 σ=Nt k (Eb k) x0 x1 x2 σ:=by
 simp only[Cp,Eb,Ab]; kernel_rfl
theorem Pf (k:Nat) (x0:Option Addr) (x1:Int) (x2_0:Int) (x2_1:Int) (x2_2:Int) (σ:Aa):Cq (k+1) x0 x1 x2_0 x2_1 x2_2 σ=Nu k (FW k) (A8 k) (Fv k) (E4 k) (Ip k) (CE k) x0 x1 x2_0 x2_1 x2_2 σ:=by
 simp only[Cq,FW,A8,Fv,E4,Ip,CE,Ab]; kernel_rfl
theorem J6 (k n:Nat) (p0:Option Addr) (h1:Nat) (h2:Nat) (p3:Option Addr) (c4:Nat) (c5:Nat) (i6:Int) (x21:Int) (σ:Aa):Dc k (n+1) p0 h1 h2 p3 c4 c5 i6 x21 σ=Iy k n (C8 k) (Dc k) (BX k) p0 h1 h2 p3 c4 c5 i6 x21 σ:=by
 simp only[C8,Dc,BX,Ab]; kernel_rfl
theorem I7 (k:Nat) (x0:Option Addr) (x1:Int) (σ:Aa):EZ (k+1) x0 x1 σ=IM k (C8 k) (Dc k) (Ci k) (BZ k) x0 x1 σ:=by
 simp only[EZ,C8,Dc,Ci,BZ,Ab]; kernel_rfl
theorem Lw (k:Nat) (x0:Option Addr) (x1:Int) (x2:Int) (x3:Int) (σ:Aa):D5 (k+1) x0 x1 x2 x3 σ=Jx k (Eb k) x0 x1 x2 x3 σ:=by
 simp only[D5,Eb,Ab]; kernel_rfl
theorem PM (k:Nat) (x0:Option Addr) (x1:Int) (σ:Aa):DO (k+1) x0 x1 σ=Ow k (Ct k) (BX k) (FY k) (CE k) x0 x1 σ:=by
 simp only[DO,Ct,BX,FY,CE,Ab]; kernel_rfl
theorem Lx (k n:Nat) (p0:Option Addr) (i1:Int) (x6:Int) (σ:Aa):E3 k (n+1) p0 i1 x6 σ=Jy k n (E3 k) p0 i1 x6 σ:=by
 simp only[E3,Ab]; kernel_rfl
theorem Tz (k:Nat) (x0:Option Addr) (x1:Int) (σ:Aa):FA (k+1) x0 x1 σ=PG k (Ci k) (E3 k) (FX k) (Dj k) x0 x1 σ:=by
 simp only[Ci,FA,E3,FX,Dj,Ab]; kernel_rfl
theorem WA (k:Nat) (x0:Int) (x1:Int) (σ:Aa):M9 (k+1) x0 x1 σ=WV k (EI k) x0 x1 σ:=by
 simp only[M9,EI,Ab]; kernel_rfl
theorem PO (k:Nat) (x0:Option Addr) (σ:Aa):A8 (k+1) x0 σ=Oy k  x0 σ:=by
 simp only[A8,Ab]; kernel_rfl
theorem Vl (k:Nat) (x0:Option Addr) (σ:Aa):An (k+1) x0 σ=Rz k  x0 σ:=by
 simp only[An,Ab]; kernel_rfl
theorem Uz (k:Nat) (x0:Option Addr) (x1:Int) (x2:Int) (σ:Aa):CR (k+1) x0 x1 x2 σ=Qx k (An k) (Cx k) (Gp k) x0 x1 x2 σ:=by
 simp only[CR,An,Cx,Gp,Ab]; kernel_rfl
theorem Jp (k n:Nat) (p0:Option Addr) (i1:Int) (i2:Int) (x9:Int) (σ:Aa):Cu k (n+1) p0 i1 i2 x9 σ=Hi k n (Cu k) p0 i1 i2 x9 σ:=by
 simp only[Cu,Ab]; kernel_rfl
theorem Jq (k n:Nat) (p0:Option Addr) (i1:Int) (i2:Int) (i3:Int) (x10:Int) (σ:Aa):Cv k (n+1) p0 i1 i2 i3 x10 σ=Hj k n (Cv k) p0 i1 i2 i3 x10 σ:=by
 simp only[Cv,Ab]; kernel_rfl
theorem QE (k:Nat) (x0:Option Addr) (x1:Int) (x2:Int) (x3:Int) (σ:Aa):Ej (k+1) x0 x1 x2 x3 σ=MR k (Cu k) (Cv k) (An k) (Cx k) (Gp k) x0 x1 x2 x3 σ:=by
 simp only[Ej,Cu,Cv,An,Cx,Gp,Ab]; kernel_rfl
theorem KP (k n:Nat) (p0:Option Addr) (i1:Int) (i2:Int) (x6:Int) (σ:Aa):Dk k (n+1) p0 i1 i2 x6 σ=IP k n (Dk k) p0 i1 i2 x6 σ:=by
 simp only[Dk,Ab]; kernel_rfl
theorem SE (k:Nat) (x0:Option Addr) (x1:Int) (σ:Aa):Eu (k+1) x0 x1 σ=Pa k (An k) (Et k) (Dk k) (Cd k) (Cx k) x0 x1 σ:=by
 simp only[An,Et,Eu,Dk,Cd,Cx,Ab]; kernel_rfl
theorem MY (k n:Nat) (p0:Option Addr) (i1:Int) (i2:Int) (x8:Int) (σ:Aa):Fa k (n+1) p0 i1 i2 x8 σ=KB k n (Fa k) p0 i1 i2 x8 σ:=by
 simp only[Fa,Ab]; kernel_rfl
theorem Vf (k:Nat) (x0:Option Addr) (x1:Int) (x2:Int) (σ:Aa):G3 (k+1) x0 x1 x2 σ=Ru k (Fa k) (FX k) (Dj k) (GQ k) x0 x1 x2 σ:=by
 simp only[G3,Fa,FX,Dj,GQ,Ab]; kernel_rfl
theorem LZ (k n:Nat) (p0:Option Addr) (i1:Int) (i2:Int) (i3:Int) (x8:Int) (σ:Aa):DV k (n+1) p0 i1 i2 i3 x8 σ=Ke k n (DV k) p0 i1 i2 i3 x8 σ:=by
 simp only[DV,Ab]; kernel_rfl
theorem U3 (k:Nat) (x0:Option Addr) (x1:Int) (x2:Int) (σ:Aa):ER (k+1) x0 x1 x2 σ=Q2 k (An k) (DV k) (Cd k) (Cx k) (Gp k) x0 x1 x2 σ:=by
 simp only[An,ER,DV,Cd,Cx,Gp,Ab]; kernel_rfl
theorem U2 (k:Nat) (x0:Option Addr) (x1:Int) (x2_0:Int) (x2_1:Int) (x2_2:Int) (σ:Aa):D6 (k+1) x0 x1 x2_0 x2_1 x2_2 σ=Q0 k (An k) (HU k) (Hc k) (Gn k) x0 x1 x2_0 x2_1 x2_2 σ:=by
 simp only[An,D6,HU,Hc,Gn,Ab]; kernel_rfl
theorem Vk (k:Nat) (x0:Option Addr) (x1:Int) (σ:Aa):Fw (k+1) x0 x1 σ=Ry k (Cw k) (IZ k) (Gb k) x0 x1 σ:=by
 simp only[Cw,Fw,IZ,Gb,Ab]; kernel_rfl
theorem T1 (k:Nat) (x0:Option Addr) (σ:Aa):Bw (k+1) x0 σ=PI k (An k) x0 σ:=by
 simp only[Bw,An,Ab]; kernel_rfl
theorem WX (k:Nat) (x0:Option Addr) (σ:Aa):HC (k+1) x0 σ=Ui k (Dd k) (A8 k) x0 σ:=by
 simp only[HC,Dd,A8,Ab]; kernel_rfl
theorem NF (k n:Nat) (p0:Option Addr) (x3:Option Addr × Nat × Nat) (x4:Int) (σ:Aa):FB k (n+1) p0 x3 x4 σ=LD k n (FB k) (An k) p0 x3 x4 σ:=by
 simp only[FB,An,Ab]; kernel_rfl
theorem Wj (k:Nat) (x0:Option Addr) (σ:Aa):IY (k+1) x0 σ=Sy k (FB k) x0 σ:=by
 simp only[IY,FB,Ab]; kernel_rfl
theorem U5 (k:Nat) (x0:Option Addr) (x1:Int) (σ:Aa):Bi (k+1) x0 x1 σ=Q4 k (An k) x0 x1 σ:=by
 simp only[An,Bi,Ab]; kernel_rfl
theorem U4 (k:Nat) (x0:Option Addr) (x1:Int) (σ:Aa):Cc (k+1) x0 x1 σ=Q3 k (An k) x0 x1 σ:=by
 simp only[An,Cc,Ab]; kernel_rfl
theorem NB (k:Nat) (x0:Option Addr) (x1:Int) (σ:Aa):Ci (k+1) x0 x1 σ=LB k (Dd k) (A8 k) x0 x1 σ:=by
 simp only[Ci,Dd,A8,Ab]; kernel_rfl
theorem Ho (k n:Nat) (p0:Option Addr) (i1:Int) (x5:Option Addr × Nat × Nat) (x6:Int) (σ:Aa):Ek k (n+1) p0 i1 x5 x6 σ=G2 k n (An k) (Ek k) p0 i1 x5 x6 σ:=by
 simp only[An,Ek,Ab]; kernel_rfl
theorem SD (k:Nat) (x0:Option Addr) (x1:Int) (σ:Aa):Et (k+1) x0 x1 σ=OZ k (Ek k) x0 x1 σ:=by
 simp only[Et,Ek,Ab]; kernel_rfl
theorem Nb (k n:Nat) (p0:Option Addr) (p1:Option Addr) (c2:Nat) (c3:Nat) (x5:Option Addr × Nat × Nat) (x6:Int) (x8:Int) (σ:Aa):Dw k (n+1) p0 p1 c2 c3 x5 x6 x8 σ=KE k n (Dw k) (Cw k) (BP k) p0 p1 c2 c3 x5 x6 x8 σ:=by
 simp only[Dw,Cw,BP,Ab]; kernel_rfl
theorem Vj (k:Nat) (x0:Option Addr) (x1:Int) (σ:Aa):HT (k+1) x0 x1 σ=Rx k (Dw k) (Et k) (Bi k) x0 x1 σ:=by
 simp only[HT,Dw,Et,Bi,Ab]; kernel_rfl
theorem LY (k n:Nat) (p0:Option Addr) (i1:Int) (i2:Int) (x7:Bool) (x8:Int) (σ:Aa):DU k (n+1) p0 i1 i2 x7 x8 σ=Kc k n (HS k) (DU k) p0 i1 i2 x7 x8 σ:=by
 simp only[HS,DU,Ab]; kernel_rfl
theorem LX (k n:Nat) (p0:Option Addr) (i1:Int) (x5:Option Addr × Nat × Nat) (x6:Int) (σ:Aa):DT k (n+1) p0 i1 x5 x6 σ=Kb k n (DT k) (DU k) p0 i1 x5 x6 σ:=by
 simp only[DT,DU,Ab]; kernel_rfl
theorem U1 (k:Nat) (x0:Option Addr) (x1:Int) (σ:Aa):Hn (k+1) x0 x1 σ=Qz k (DT k) (Bi k) x0 x1 σ:=by
 simp only[Hn,DT,Bi,Ab]; kernel_rfl
theorem Lv (k:Nat) (x0:Option Addr) (σ:Aa):B7 (k+1) x0 σ=Jw k  x0 σ:=by
 simp only[B7,Ab]; kernel_rfl
theorem PK (k:Nat)  (σ:Aa):DN (k+1)  σ=Ou k   σ:=by
 simp only[DN,Ab]; kernel_rfl
theorem Jo (k n:Nat) (p0:Option Addr) (i1:Int) (x7:Int) (σ:Aa):BU k (n+1) p0 i1 x7 σ=Hh k n (BU k) (AH k) (D5 k) p0 i1 x7 σ:=by
 simp only[BU,AH,D5,Ab]; kernel_rfl
theorem KM (k:Nat) (x0:Option Addr) (x1:Int) (σ:Aa):BW (k+1) x0 x1 σ=IK k (BU k) x0 x1 σ:=by
 simp only[BW,BU,Ab]; kernel_rfl
theorem Oc (k:Nat) (x0:Option Addr) (x1:Int) (σ:Aa):Ct (k+1) x0 x1 σ=M0 k (GD k) (A8 k) x0 x1 σ:=by
 simp only[GD,A8,Ct,Ab]; kernel_rfl
theorem Un (k:Nat) (x0:Int) (σ:Aa):GP (k+1) x0 σ=Tq k  x0 σ:=by
 simp only[GP,Ab]; kernel_rfl
theorem LG (k:Nat) (x0:Option Addr) (x1:Int) (σ:Aa):BZ (k+1) x0 x1 σ=Lh k (CJ k) x0 x1 σ:=by
 simp only[CJ,BZ,Ab]; kernel_rfl
theorem PQ (k:Nat) (x0:Option Addr) (x1:Int) (σ:Aa):BX (k+1) x0 x1 σ=Oz k (E4 k) (GP k) x0 x1 σ:=by
 simp only[BX,E4,GP,Ab]; kernel_rfl
theorem Rh (k:Nat) (x0:Option Addr) (σ:Aa):CK (k+1) x0 σ=Nz k (An k) x0 σ:=by
 simp only[An,CK,Ab]; kernel_rfl
theorem QG (k:Nat) (x0:Option Addr) (x1_0:Int) (x1_1:Int) (x1_2:Int) (σ:Aa):Em (k+1) x0 x1_0 x1_1 x1_2 σ=MS k (Ej k) (EM k) (HV k) (Gn k) (BP k) (CK k) (D7 k) (DP k) (Fe k) (Aw k) (E7 k) x0 x1_0 x1_1 x1_2 σ:=by
 simp only[Ej,EM,HV,Gn,BP,Em,CK,D7,DP,Fe,Aw,E7,Ab]; kernel_rfl
theorem bC (k:Nat) (x0:Option Addr) (x1:Int) (σ:Aa):Pm (k+1) x0 x1 σ=Zx k (IY k) x0 x1 σ:=by
 simp only[Pm,IY,Ab]; kernel_rfl
theorem QA (k:Nat) (x0:Option Addr) (σ:Aa):EY (k+1) x0 σ=MQ k (B7 k) x0 σ:=by
 simp only[EY,B7,Ab]; kernel_rfl
theorem QH (k:Nat) (x0:Option Addr) (σ:Aa):Fc (k+1) x0 σ=MT k (CK k) x0 σ:=by
 simp only[CK,Fc,Ab]; kernel_rfl
theorem IX (k n:Nat) (p0:Option Addr) (i1:Int) (h2:Nat) (i3:Int) (x54:Int) (σ:Aa):Dv k (n+1) p0 i1 h2 i3 x54 σ=HN k n (Dv k) p0 i1 h2 i3 x54 σ:=by
 simp only[Dv,Ab]; kernel_rfl
theorem Ph (k:Nat) (x0:Option Addr) (x1:Int) (x2:Int) (x3_0:Int) (x3_1:Int) (x4_0:Int) (x4_1:Int) (σ:Aa):Eb (k+1) x0 x1 x2 x3_0 x3_1 x4_0 x4_1 σ=Nw k (Dv k) (A8 k) (CJ k) (GQ k) (Cb k) x0 x1 x2 x3_0 x3_1 x4_0 x4_1 σ:=by
 simp only[Eb,Dv,A8,CJ,GQ,Cb,Ab]; kernel_rfl
theorem J7 (k n:Nat) (p0:Option Addr) (i1:Int) (i2:Int) (i3:Int) (x10:Int) (σ:Aa):De k (n+1) p0 i1 i2 i3 x10 σ=Iz k n (FV k) (De k) p0 i1 i2 i3 x10 σ:=by
 simp only[FV,De,Ab]; kernel_rfl
theorem PN (k:Nat) (x0:Option Addr) (x1:Int) (x2:Int) (x3:Int) (σ:Aa):FW (k+1) x0 x1 x2 x3 σ=Ox k (De k) (Dj k) x0 x1 x2 x3 σ:=by
 simp only[FW,De,Dj,Ab]; kernel_rfl
theorem SC (k:Nat) (x0_0:Int) (x0_1:Int) (x0_2:Int) (σ:Aa):Ip (k+1) x0_0 x0_1 x0_2 σ=RT k  x0_0 x0_1 x0_2 σ:=by
 simp only[Ip,Ab]; kernel_rfl
theorem PW (k:Nat) (x0:Option Addr) (x1:Int) (x2:Int) (σ:Aa):CE (k+1) x0 x1 x2 σ=O7 k (ES k) (Gd k) x0 x1 x2 σ:=by
 simp only[CE,ES,Gd,Ab]; kernel_rfl
theorem J4 (k:Nat) (x0:Int) (c0:Option Addr) (c1:Option Addr) (σ:Aa):C8 (k+1) x0 c0 c1 σ=Ix k  x0 c0 c1 σ:=by
 simp only[C8,Ab]; kernel_rfl
theorem PV (k:Nat) (x0:Option Addr) (x1:Int) (σ:Aa):Gc (k+1) x0 x1 σ=O6 k (Dl k) (D8 k) x0 x1 σ:=by
 simp only[Gc,Dl,D8,Ab]; kernel_rfl
theorem PT (k:Nat) (x0:Option Addr) (x1:Int) (x2:Int) (σ:Aa):FY (k+1) x0 x1 x2 σ=O4 k  x0 x1 x2 σ:=by
 simp only[FY,Ab]; kernel_rfl
theorem Wi (k:Nat) (x0:Option Addr) (x1:Int) (x2:Bool) (σ:Aa):FX (k+1) x0 x1 x2 σ=Sx k (A8 k) (CJ k) x0 x1 x2 σ:=by
 simp only[FX,A8,CJ,Ab]; kernel_rfl
theorem J8 (k n:Nat) (p0:Option Addr) (i1:Int) (x5:Int) (σ:Aa):DR k (n+1) p0 i1 x5 σ=I0 k n (DR k) p0 i1 x5 σ:=by
 simp only[DR,Ab]; kernel_rfl
theorem PS (k:Nat) (x0:Option Addr) (x1:Int) (σ:Aa):Dj (k+1) x0 x1 σ=O0 k (DR k) x0 x1 σ:=by
 simp only[Dj,DR,Ab]; kernel_rfl
theorem Mc (k:Nat) (x0:Option Addr × Nat × Nat) (x1:Int) (σ:Aa):EI (k+1) x0 x1 σ=Kh k (Ge k) x0 x1 σ:=by
 simp only[EI,Ge,Ab]; kernel_rfl
theorem Pq (k:Nat) (x0:Option Addr) (σ:Aa):Ca (k+1) x0 σ=N5 k  x0 σ:=by
 simp only[Ca,Ab]; kernel_rfl
theorem U7 (k:Nat) (x0:Option Addr) (x1:Int) (σ:Aa):Cx (k+1) x0 x1 σ=Q6 k  x0 x1 σ:=by
 simp only[Cx,Ab]; kernel_rfl
theorem YL (k:Nat) (x0:Int) (σ:Aa):Gp (k+1) x0 σ=Wz k  x0 σ:=by
 simp only[Gp,Ab]; kernel_rfl
theorem Ma (k n:Nat) (p0:Option Addr) (i1:Int) (x5:Int) (σ:Aa):DW k (n+1) p0 i1 x5 σ=Kf k n (DW k) p0 i1 x5 σ:=by
 simp only[DW,Ab]; kernel_rfl
theorem U6 (k:Nat) (x0:Option Addr) (x1:Int) (σ:Aa):Cd (k+1) x0 x1 σ=Q5 k (DW k) x0 x1 σ:=by
 simp only[Cd,DW,Ab]; kernel_rfl
theorem Uo (k:Nat) (x0:Int) (σ:Aa):GQ (k+1) x0 σ=Tt k  x0 σ:=by
 simp only[GQ,Ab]; kernel_rfl
theorem YJ (k:Nat) (x0_0:Int) (x0_1:Int) (x0_2:Int) (σ:Aa):Gn (k+1) x0_0 x0_1 x0_2 σ=Wx k  x0_0 x0_1 x0_2 σ:=by
 simp only[Gn,Ab]; kernel_rfl
theorem Nc (k n:Nat) (p0:Option Addr) (i1:Int) (i2:Int) (h3:Nat) (x10:Int) (σ:Aa):Dx k (n+1) p0 i1 i2 h3 x10 σ=KF k n (Dx k) (BP k) p0 i1 i2 h3 x10 σ:=by
 simp only[Dx,BP,Ab]; kernel_rfl
theorem Vm (k:Nat) (x0:Option Addr) (x1:Int) (x2_0:Int) (x2_1:Int) (x2_2:Int) (x3:Int) (σ:Aa):HU (k+1) x0 x1 x2_0 x2_1 x2_2 x3 σ=R5 k (Cd k) (Dx k) (EM k) (HV k) (BP k) x0 x1 x2_0 x2_1 x2_2 x3 σ:=by
 simp only[Cd,HU,Dx,EM,HV,BP,Ab]; kernel_rfl
theorem NG (k n:Nat) (p0:Option Addr) (h1:Nat) (x4:Int) (σ:Aa):EB k (n+1) p0 h1 x4 σ=LF k n (EB k) p0 h1 x4 σ:=by
 simp only[EB,Ab]; kernel_rfl
theorem Wl (k:Nat) (x0:Option Addr) (x1_0:Int) (x1_1:Int) (x1_2:Int) (x1_3:Int) (x1_4:Int) (x1_5:Option Addr × Nat × Nat) (x1_6:Option Addr × Nat × Nat) (x1_7:Bool) (σ:Aa):Hc (k+1) x0 x1_0 x1_1 x1_2 x1_3 x1_4 x1_5 x1_6 x1_7 σ=S6 k (EB k) x0 x1_0 x1_1 x1_2 x1_3 x1_4 x1_5 x1_6 x1_7 σ:=by
 simp only[Hc,EB,Ab]; kernel_rfl
theorem U8 (k:Nat) (x0:Option Addr) (x1:Int) (σ:Aa):Gb (k+1) x0 x1 σ=Q7 k (Cw k) (An k) x0 x1 σ:=by
 simp only[Cw,An,Gb,Ab]; kernel_rfl
theorem Wk (k:Nat) (x0:Option Addr) (x1:Int) (σ:Aa):IZ (k+1) x0 x1 σ=Sz k  x0 x1 σ:=by
 simp only[IZ,Ab]; kernel_rfl
theorem LW (k n:Nat) (p0:Option Addr) (i1:Int) (x5:Int) (σ:Aa):EH k (n+1) p0 i1 x5 σ=Ka k n (EH k) p0 i1 x5 σ:=by
 simp only[EH,Ab]; kernel_rfl
theorem U0 (k:Nat) (x0:Option Addr) (x1:Int) (σ:Aa):Cw (k+1) x0 x1 σ=Qy k (EH k) (An k) x0 x1 σ:=by
 simp only[Cw,EH,An,Ab]; kernel_rfl
theorem QB (k:Nat) (x0:Option Addr) (x1:Int) (σ:Aa):GD (k+1) x0 x1 σ=P7 k (A8 k) (Gc k) x0 x1 σ:=by
 simp only[GD,A8,Gc,Ab]; kernel_rfl
theorem PL (k:Nat) (x0:Option Addr) (x1:Int) (σ:Aa):FV (k+1) x0 x1 σ=Ov k (A8 k) (BX k) (Fz k) x0 x1 σ:=by
 simp only[FV,A8,BX,Fz,Ab]; kernel_rfl
theorem Na (k n:Nat) (p0:Option Addr) (i1:Int) (x6:Int) (σ:Aa):Fb k (n+1) p0 i1 x6 σ=KD k n (Fb k) (BP k) p0 i1 x6 σ:=by
 simp only[Fb,BP,Ab]; kernel_rfl
theorem Vi (k:Nat) (x0:Option Addr) (x1:Int) (σ:Aa):HS (k+1) x0 x1 σ=Rw k (Fb k) (An k) x0 x1 σ:=by
 simp only[HS,Fb,An,Ab]; kernel_rfl
theorem YK (k:Nat) (x0_0:Int) (x0_1:Int) (x0_2:Int) (σ:Aa):BP (k+1) x0_0 x0_1 x0_2 σ=Wy k (Gn k) x0_0 x0_1 x0_2 σ:=by
 simp only[Gn,BP,Ab]; kernel_rfl
theorem FK (k n:Nat) (p0:Option Addr) (i1:Int) (x7:Option Addr × Nat × Nat) (x8:Int) (x9:Int) (σ:Aa):BO k (n+1) p0 i1 x7 x8 x9 σ=Fs k n (BO k) (CL k) p0 i1 x7 x8 x9 σ:=by
 simp only[BO,CL,Ab]; kernel_rfl
theorem NC (k:Nat) (x0:Option Addr) (x1:Int) (x2:Int) (σ:Aa):Dd (k+1) x0 x1 x2 σ=LC k (BO k) (CL k) x0 x1 x2 σ:=by
 simp only[Dd,BO,CL,Ab]; kernel_rfl
theorem Pj (k:Nat) (x0:Option Addr) (x1:Int) (σ:Aa):CJ (k+1) x0 x1 σ=Nx k (A8 k) x0 x1 σ:=by
 simp only[A8,CJ,Ab]; kernel_rfl
theorem YI (k:Nat) (x0_0:Int) (x0_1:Int) (x0_2:Int) (σ:Aa):EM (k+1) x0_0 x0_1 x0_2 σ=Ww k (BP k) x0_0 x0_1 x0_2 σ:=by
 simp only[EM,BP,Ab]; kernel_rfl
theorem ae (k:Nat) (x0_0:Int) (x0_1:Int) (x0_2:Int) (σ:Aa):HV (k+1) x0_0 x0_1 x0_2 σ=X6 k (BP k) x0_0 x0_1 x0_2 σ:=by
 simp only[HV,BP,Ab]; kernel_rfl
theorem QK (k n:Nat) (p0:Option Addr) (i1:Int) (i2:Int) (x6:Int) (σ:Aa):HF k (n+1) p0 i1 i2 x6 σ=PA k n (Bi k) (HF k) p0 i1 i2 x6 σ:=by
 simp only[Bi,HF,Ab]; kernel_rfl
theorem WZ (k n:Nat) (p0:Option Addr) (i1:Int) (x5:Int) (σ:Aa):HE k (n+1) p0 i1 x5 σ=Uk k n (Bw k) (HE k) (HF k) p0 i1 x5 σ:=by
 simp only[Bw,HE,HF,Ab]; kernel_rfl
theorem ag (k:Nat) (x0:Option Addr) (x1:Int) (σ:Aa):E7 (k+1) x0 x1 σ=X7 k (HE k) x0 x1 σ:=by
 simp only[E7,HE,Ab]; kernel_rfl
theorem QJ (k:Nat) (x0:Option Addr) (x1:Int) (x2:Int) (x3_0:Int) (x3_1:Int) (x3_2:Int) (σ:Aa):Aw (k+1) x0 x1 x2 x3_0 x3_1 x3_2 σ=MV k (CR k) (D6 k) (Cc k) (EM k) x0 x1 x2 x3_0 x3_1 x3_2 σ:=by
 simp only[CR,D6,Cc,EM,Aw,Ab]; kernel_rfl
theorem Ri (k:Nat) (x0:Option Addr) (x1_0:Int) (x1_1:Int) (x1_2:Int) (x2:Int) (σ:Aa):D7 (k+1) x0 x1_0 x1_1 x1_2 x2 σ=N0 k (Aw k) (E7 k) x0 x1_0 x1_1 x1_2 x2 σ:=by
 simp only[D7,Aw,E7,Ab]; kernel_rfl
theorem Js (k n:Nat) (p0:Option Addr) (i1:Int) (h2:Nat) (i3:Int) (p4:Option Addr) (c5:Nat) (c6:Nat) (x10:Int) (σ:Aa):Cz k (n+1) p0 i1 h2 i3 p4 c5 c6 x10 σ=Hl k n (Cz k) (Aw k) p0 i1 h2 i3 p4 c5 c6 x10 σ:=by
 simp only[Cz,Aw,Ab]; kernel_rfl
theorem Jr (k n:Nat) (p0:Option Addr) (i1:Int) (h2:Nat) (x8:Int) (σ:Aa):Cy k (n+1) p0 i1 h2 x8 σ=Hk k n (Bw k) (Cc k) (Bi k) (Cy k) (Cz k) (JU k) p0 i1 h2 x8 σ:=by
 simp only[Bw,Cc,Bi,Cy,Cz,JU,Ab]; kernel_rfl
theorem QI (k:Nat) (x0:Option Addr) (x1_0:Int) (x1_1:Int) (x1_2:Int) (x2:Int) (σ:Aa):Fe (k+1) x0 x1_0 x1_1 x1_2 x2 σ=MU k (D7 k) (Cy k) (Fy k) x0 x1_0 x1_1 x1_2 x2 σ:=by
 simp only[D7,Fe,Cy,Fy,Ab]; kernel_rfl
theorem Ja (k n:Nat) (p0:Option Addr) (i1:Int) (p2:Option Addr) (c3:Nat) (c4:Nat) (x7:Int) (σ:Aa):CT k (n+1) p0 i1 p2 c3 c4 x7 σ=GN k n (CT k) p0 i1 p2 c3 c4 x7 σ:=by
 simp only[CT,Ab]; kernel_rfl
theorem Jb (k n:Nat) (p0:Option Addr) (i1:Int) (p2:Option Addr) (c3:Nat) (c4:Nat) (x10:Int) (x11:Int) (σ:Aa):CU k (n+1) p0 i1 p2 c3 c4 x10 x11 σ=GO k n (CU k) p0 i1 p2 c3 c4 x10 x11 σ:=by
 simp only[CU,Ab]; kernel_rfl
theorem Qh (k:Nat) (x0:Option Addr) (x1:Int) (σ:Aa):DP (k+1) x0 x1 σ=LR k (CT k) (CU k) (Fx k) x0 x1 σ:=by
 simp only[DP,CT,CU,Fx,Ab]; kernel_rfl
theorem GZ (k:Nat) (x0:Option Addr × Nat × Nat) (x1:Value) (σ:Aa):Cb (k+1) x0 x1 σ=Ft k (C7 k) x0 x1 σ:=by
 simp only[Cb,C7,Ab]; kernel_rfl
theorem MZ (k:Nat) (x0_0:Int) (x0_1:Int) (σ:Aa):CI (k+1) x0_0 x0_1 σ=KC k  x0_0 x0_1 σ:=by
 simp only[CI,Ab]; kernel_rfl
theorem Oe (k:Nat) (x0:Option Addr) (x1:Int) (x2:Option Addr × Nat × Nat) (σ:Aa):ES (k+1) x0 x1 x2 σ=M5 k (Ca k) (D8 k) (D1 k) x0 x1 x2 σ:=by
 simp only[ES,Ca,D8,D1,Ab]; kernel_rfl
theorem PY (k:Nat) (x0:Option Addr) (x1:Int) (x2:Int) (σ:Aa):Gd (k+1) x0 x1 x2 σ=O9 k (CM k) x0 x1 x2 σ:=by
 simp only[CM,Gd,Ab]; kernel_rfl
theorem Of (k:Nat) (x0:Option Addr) (x1:Int) (σ:Aa):D8 (k+1) x0 x1 σ=M6 k (Ca k) x0 x1 σ:=by
 simp only[Ca,D8,Ab]; kernel_rfl
theorem PX (k:Nat) (x0:Option Addr) (x1:Int) (σ:Aa):Dl (k+1) x0 x1 σ=O8 k (CM k) x0 x1 σ:=by
 simp only[Dl,CM,Ab]; kernel_rfl
theorem Md (k n:Nat) (p0:Option Addr) (c1:Nat) (c2:Nat) (i3:Int) (i4:Int) (x8:Int) (σ:Aa):DX k (n+1) p0 c1 c2 i3 i4 x8 σ=Ki k n (DX k) p0 c1 c2 i3 i4 x8 σ:=by
 simp only[DX,Ab]; kernel_rfl
theorem Oh (k:Nat) (x0:Option Addr × Nat × Nat) (x1:Int) (σ:Aa):Ge (k+1) x0 x1 σ=M8 k (DX k) x0 x1 σ:=by
 simp only[Ge,DX,Ab]; kernel_rfl
theorem Jc (k n:Nat) (p0:Option Addr) (i1:Int) (x8:Int) (σ:Aa):Dy k (n+1) p0 i1 x8 σ=HO k n (Dy k) (Dl k) p0 i1 x8 σ:=by
 simp only[Dy,Dl,Ab]; kernel_rfl
theorem Po (k:Nat) (x0:Option Addr) (x1:Int) (x2:Int) (σ:Aa):Fz (k+1) x0 x1 x2 σ=N3 k (Dy k) (Ca k) x0 x1 x2 σ:=by
 simp only[Fz,Dy,Ca,Ab]; kernel_rfl
theorem Nd (k n:Nat) (p0:Option Addr) (i1:Int) (x8:Int) (σ:Aa):Dz k (n+1) p0 i1 x8 σ=KG k n (Dz k) (Dl k) p0 i1 x8 σ:=by
 simp only[Dz,Dl,Ab]; kernel_rfl
theorem Pp (k:Nat) (x0:Option Addr) (x1:Int) (x2:Int) (σ:Aa):CL (k+1) x0 x1 x2 σ=N4 k (Dz k) (Ca k) x0 x1 x2 σ:=by
 simp only[CL,Dz,Ca,Ab]; kernel_rfl
theorem Rk (k:Nat) (x0:Option Addr) (x1_0:Int) (x1_1:Int) (x1_2:Int) (x2:Int) (σ:Aa):Fy (k+1) x0 x1_0 x1_1 x1_2 x2 σ=N2 k (Aw k) (E7 k) x0 x1_0 x1_1 x1_2 x2 σ:=by
 simp only[Fy,Aw,E7,Ab]; kernel_rfl
theorem PU (k n:Nat) (p0:Option Addr) (c1:Nat) (c2:Nat) (x5:Option Addr × Nat × Nat) (x7:Int) (σ:Aa):Hd k (n+1) p0 c1 c2 x5 x7 σ=O5 k n (Hd k) p0 c1 c2 x5 x7 σ:=by
 simp only[Hd,Ab]; kernel_rfl
theorem YM (k:Nat) (x0:Option Addr) (x1:Int) (σ:Aa):JU (k+1) x0 x1 σ=W7 k (Hn k) (Hd k) x0 x1 σ:=by
 simp only[Hn,JU,Hd,Ab]; kernel_rfl
theorem JO (k n:Nat) (p0:Option Addr) (x3:Option Addr × Nat × Nat) (x4:Int) (σ:Aa):D0 k (n+1) p0 x3 x4 σ=H7 k n (Bw k) (HT k) (Cc k) (Bi k) (D0 k) p0 x3 x4 σ:=by
 simp only[Bw,HT,Cc,Bi,D0,Ab]; kernel_rfl
theorem Rj (k:Nat) (x0:Option Addr) (σ:Aa):Fx (k+1) x0 σ=N1 k (D0 k) x0 σ:=by
 simp only[Fx,D0,Ab]; kernel_rfl
theorem EN (k n:Nat) (p0:Option Addr) (c1:Nat) (c2:Nat) (v3:Value) (i4:Int) (x8:Int) (σ:Aa):Bq k (n+1) p0 c1 c2 v3 i4 x8 σ=DZ k n (HQ k) (Bq k) p0 c1 c2 v3 i4 x8 σ:=by
 simp only[HQ,Bq,Ab]; kernel_rfl
theorem HW (k:Nat) (x0:Option Addr × Nat × Nat) (x1:Value) (σ:Aa):C7 (k+1) x0 x1 σ=Gu k (Bq k) x0 x1 σ:=by
 simp only[C7,Bq,Ab]; kernel_rfl
theorem JP (k:Nat) (x0:Option Addr × Nat × Nat) (x1:Value) (σ:Aa):D1 (k+1) x0 x1 σ=H9 k (E8 k) x0 x1 σ:=by
 simp only[D1,E8,Ab]; kernel_rfl
theorem Mb (k:Nat) (x0:Int) (c0:Option Addr) (σ:Aa):C3 (k+1) x0 c0 σ=Kg k (ET k) x0 c0 σ:=by
 simp only[C3,ET,Ab]; kernel_rfl
theorem Og (k:Nat) (x0:Option Addr) (x1:Int) (σ:Aa):ET (k+1) x0 x1 σ=M7 k (CM k) x0 x1 σ:=by
 simp only[CM,ET,Ab]; kernel_rfl
theorem Pr (k:Nat) (x0:Option Addr) (σ:Aa):CM (k+1) x0 σ=N6 k  x0 σ:=by
 simp only[CM,Ab]; kernel_rfl
theorem GI (k n:Nat) (p0:Option Addr) (c1:Nat) (c2:Nat) (v3:Value) (i4:Int) (x8:Int) (σ:Aa):CC k (n+1) p0 c1 c2 v3 i4 x8 σ=FJ k n (MX k) (CC k) p0 c1 c2 v3 i4 x8 σ:=by
 simp only[MX,CC,Ab]; kernel_rfl
theorem L0 (k:Nat) (x0:Option Addr × Nat × Nat) (x1:Value) (σ:Aa):E8 (k+1) x0 x1 σ=J1 k (CC k) x0 x1 σ:=by
 simp only[E8,CC,Ab]; kernel_rfl
theorem N9 (k:Nat) (x1:Option Addr) (x2:Int) (σ:Aa):Da (k+1) x1 x2 σ=L9 k (AM k) (AP k) x1 x2 σ:=by
 simp only[AM,AP,Da,Ab]; kernel_rfl
theorem KN (k:Nat) (x0:Option Addr) (x1:Option Addr × Nat × Nat) (σ:Aa):AP (k+1) x0 x1 σ=IL k (Bx k) x0 x1 σ:=by
 simp only[Bx,AP,Ab]; kernel_rfl
theorem GA (k n:Nat) (i0:Int) (i1:Int) (p2:Option Addr) (c3:Nat) (c4:Nat) (i5:Int) (x7:Option Addr × Nat × Nat) (x27:Int) (σ:Aa):BJ k (n+1) i0 i1 p2 c3 c4 i5 x7 x27 σ=FG k n (BJ k) i0 i1 p2 c3 c4 i5 x7 x27 σ:=by
 simp only[BJ,Ab]; kernel_rfl
theorem G9 (k n:Nat) (p0:Option Addr) (i1:Int) (i2:Int) (p3:Option Addr) (c4:Nat) (c5:Nat) (i6:Int) (x7:Option Addr × Nat × Nat) (x16:Int) (σ:Aa):BI k (n+1) p0 i1 i2 p3 c4 c5 i6 x7 x16 σ=FF k n (BI k) (BJ k) (EZ k) p0 i1 i2 p3 c4 c5 i6 x7 x16 σ:=by
 simp only[BI,BJ,EZ,Ab]; kernel_rfl
theorem Lt (k:Nat) (x0:Option Addr) (x1:Int) (x2:Int) (σ:Aa):AM (k+1) x0 x1 x2 σ=Ju k (Bt k) (BI k) x0 x1 x2 σ:=by
 simp only[Bt,AM,BI,Ab]; kernel_rfl
theorem Gv (k n:Nat) (p0:Option Addr) (h1:Nat) (x4:Int) (σ:Aa):BS k (n+1) p0 h1 x4 σ=Fq k n (BS k) (AH k) (Cp k) p0 h1 x4 σ:=by
 simp only[BS,AH,Cp,Ab]; kernel_rfl
theorem KL (k:Nat) (x0:Option Addr) (σ:Aa):Bx (k+1) x0 σ=IJ k (BS k) x0 σ:=by
 simp only[Bx,BS,Ab]; kernel_rfl
theorem FU (k n:Nat) (p0:Option Addr) (i1:Int) (x3:Option Addr × Nat × Nat) (x10:Int) (σ:Aa):B1 k (n+1) p0 i1 x3 x10 σ=Fh k n (B1 k) (Bp k) (Dn k) p0 i1 x3 x10 σ:=by
 simp only[B1,Bp,Dn,Ab]; kernel_rfl
theorem Kr (k:Nat) (x0:Option Addr) (σ:Aa):Bt (k+1) x0 σ=Im k (B1 k) (AH k) x0 σ:=by
 simp only[Bt,B1,AH,Ab]; kernel_rfl
theorem NY (k:Nat) (x1:Option Addr) (x2:Int) (σ:Aa):D2 (k+1) x1 x2 σ=Mw k (AM k) (AP k) (Bh k) x1 x2 σ:=by
 simp only[AM,AP,D2,Bh,Ab]; kernel_rfl
theorem EU (k:Nat) (x0:Option Addr × Nat × Nat) (x1:Value) (σ:Aa):Bh (k+1) x0 x1 σ=Eo k (Cn k) x0 x1 σ:=by
 simp only[Bh,Cn,Ab]; kernel_rfl
theorem LU (k:Nat) (x0_0:Int) (x0_1:Int) (x1_0:Int) (x1_1:Int) (σ:Aa):CZ (k+1) x0_0 x0_1 x1_0 x1_1 σ=JZ k  x0_0 x0_1 x1_0 x1_1 σ:=by
 simp only[CZ,Ab]; kernel_rfl
theorem EC (k n:Nat) (p0:Option Addr) (c1:Nat) (c2:Nat) (i3:Int) (v4:Value) (x7:Int) (x8:Int) (σ:Aa):AR k (n+1) p0 c1 c2 i3 v4 x7 x8 σ=DF k n (A9 k) (AR k) p0 c1 c2 i3 v4 x7 x8 σ:=by
 simp only[A9,AR,Ab]; kernel_rfl
theorem GK (k n:Nat) (p0:Option Addr) (c1:Nat) (c2:Nat) (i3:Int) (v4:Value) (i5:Int) (x7:Int) (x8:Int) (σ:Aa):Bn k (n+1) p0 c1 c2 i3 v4 i5 x7 x8 σ=Fj k n (Bn k) (Ax k) p0 c1 c2 i3 v4 i5 x7 x8 σ:=by
 simp only[Bn,Ax,Ab]; kernel_rfl
theorem ED (k n:Nat) (p0:Option Addr) (c1:Nat) (c2:Nat) (i3:Int) (v4:Value) (x6:Int) (σ:Aa):AU k (n+1) p0 c1 c2 i3 v4 x6 σ=DG k n (AU k) (Bn k) (Ax k) p0 c1 c2 i3 v4 x6 σ:=by
 simp only[AU,Bn,Ax,Ab]; kernel_rfl
theorem Fk (k:Nat) (x0:Option Addr × Nat × Nat) (x1:Int) (x2:Value) (σ:Aa):Cn (k+1) x0 x1 x2 σ=Ez k (A9 k) (AR k) (AU k) x0 x1 x2 σ:=by
 simp only[A9,Cn,AR,AU,Ab]; kernel_rfl
theorem Dr (k n:Nat) (p0:Option Addr) (c1:Nat) (c2:Nat) (i3:Int) (v4:Value) (x9:Int) (σ:Aa):AG k (n+1) p0 c1 c2 i3 v4 x9 σ=C2 k n (Di k) (AG k) p0 c1 c2 i3 v4 x9 σ:=by
 simp only[Di,AG,Ab]; kernel_rfl
theorem Dq (k n:Nat) (p0:Option Addr) (c1:Nat) (c2:Nat) (i3:Int) (i4:Int) (v5:Value) (x8:Int) (σ:Aa):AF k (n+1) p0 c1 c2 i3 i4 v5 x8 σ=C1 k n (AF k) (AG k) p0 c1 c2 i3 i4 v5 x8 σ:=by
 simp only[AF,AG,Ab]; kernel_rfl
theorem DY (k:Nat) (x0:Option Addr × Nat × Nat) (x1:Int) (x2:Int) (x3:Value) (σ:Aa):A9 (k+1) x0 x1 x2 x3 σ=CS k (AF k) x0 x1 x2 x3 σ:=by
 simp only[A9,AF,Ab]; kernel_rfl
theorem KS (k n:Nat) (p0:Option Addr) (c1:Nat) (c2:Nat) (i3:Int) (v4:Value) (x10:Int) (x11:Int) (σ:Aa):BB k (n+1) p0 c1 c2 i3 v4 x10 x11 σ=GV k n (Di k) (BB k) p0 c1 c2 i3 v4 x10 x11 σ:=by
 simp only[Di,BB,Ab]; kernel_rfl
theorem Gw (k n:Nat) (p0:Option Addr) (c1:Nat) (c2:Nat) (i3:Int) (x13:Int) (σ:Aa):BE k (n+1) p0 c1 c2 i3 x13 σ=EK k n (BE k) p0 c1 c2 i3 x13 σ:=by
 simp only[BE,Ab]; kernel_rfl
theorem KT (k n:Nat) (p0:Option Addr) (c1:Nat) (c2:Nat) (i3:Int) (v4:Value) (x14:Int) (x15:Int) (σ:Aa):BF k (n+1) p0 c1 c2 i3 v4 x14 x15 σ=GW k n (Di k) (BF k) p0 c1 c2 i3 v4 x14 x15 σ:=by
 simp only[Di,BF,Ab]; kernel_rfl
theorem Gx (k n:Nat) (p0:Option Addr) (c1:Nat) (c2:Nat) (i3:Int) (x17:Int) (σ:Aa):BG k (n+1) p0 c1 c2 i3 x17 σ=EL k n (BG k) p0 c1 c2 i3 x17 σ:=by
 simp only[BG,Ab]; kernel_rfl
theorem KU (k n:Nat) (p0:Option Addr) (c1:Nat) (c2:Nat) (v3:Value) (i4:Int) (x20:Int) (x21:Int) (σ:Aa):BH k (n+1) p0 c1 c2 v3 i4 x20 x21 σ=GX k n (Di k) (BH k) p0 c1 c2 v3 i4 x20 x21 σ:=by
 simp only[Di,BH,Ab]; kernel_rfl
theorem Me (k:Nat) (x0:Option Addr × Nat × Nat) (x1:Int) (x2:Int) (x3:Int) (x4:Value) (σ:Aa):Ax (k+1) x0 x1 x2 x3 x4 σ=HP k (Cm k) (Ax k) (BB k) (BE k) (BF k) (BG k) (BH k) x0 x1 x2 x3 x4 σ:=by
 simp only[Cm,Ax,BB,BE,BF,BG,BH,Ab]; kernel_rfl
theorem LH (k n:Nat) (p0:Option Addr) (c1:Nat) (c2:Nat) (i3:Int) (v4:Value) (x10:Int) (x11:Int) (σ:Aa):BR k (n+1) p0 c1 c2 i3 v4 x10 x11 σ=Hy k n (BR k) (B4 k) p0 c1 c2 i3 v4 x10 x11 σ:=by
 simp only[BR,B4,Ab]; kernel_rfl
theorem Nn (k:Nat) (x0:Option Addr × Nat × Nat) (x1:Int) (x2:Int) (x3:Int) (x4:Value) (σ:Aa):Cm (k+1) x0 x1 x2 x3 x4 σ=IQ k (BR k) (B4 k) x0 x1 x2 x3 x4 σ:=by
 simp only[Cm,BR,B4,Ab]; kernel_rfl
theorem Gl (k n:Nat) (p0:Option Addr) (c1:Nat) (c2:Nat) (i3:Int) (i4:Int) (i5:Int) (x10:Int) (σ:Aa):B9 k (n+1) p0 c1 c2 i3 i4 i5 x10 σ=EA k n (B9 k) p0 c1 c2 i3 i4 i5 x10 σ:=by
 simp only[B9,Ab]; kernel_rfl
theorem LI (k:Nat) (x0:Option Addr × Nat × Nat) (x1:Int) (x2:Int) (x3:Int) (x4:Value) (σ:Aa):B4 (k+1) x0 x1 x2 x3 x4 σ=Hz k (B9 k) x0 x1 x2 x3 x4 σ:=by
 simp only[B4,B9,Ab]; kernel_rfl
theorem Oa (k:Nat) (x1:Option Addr) (x2:Int) (σ:Aa):D4 (k+1) x1 x2 σ=My k (AM k) (AP k) x1 x2 σ:=by
 simp only[AM,AP,D4,Ab]; kernel_rfl
theorem NZ (k:Nat) (x1:Option Addr) (x2:Int) (σ:Aa):D3 (k+1) x1 x2 σ=Mx k (B5 k) x1 x2 σ:=by
 simp only[B5,D3,Ab]; kernel_rfl
theorem Ks (k:Nat) (x0:Option Addr) (x1:Option Addr) (x2:Int) (σ:Aa):B5 (k+1) x0 x1 x2 σ=Io k (Bx k) (DM k) (Dm k) x0 x1 x2 σ:=by
 simp only[Bx,B5,DM,Dm,Ab]; kernel_rfl
theorem PJ (k:Nat) (x0:Option Addr) (x1:Int) (σ:Aa):DM (k+1) x0 x1 σ=Ot k  x0 x1 σ:=by
 simp only[DM,Ab]; kernel_rfl
theorem Pd (k:Nat) (x0:Option Addr) (x1:Int) (σ:Aa):Dm (k+1) x0 x1 σ=Ns k  x0 x1 σ:=by
 simp only[Dm,Ab]; kernel_rfl
theorem NA (k:Nat) (x1:Option Addr) (x2:Int) (σ:Aa):Db (k+1) x1 x2 σ=LA k (B5 k) (CH k) (DM k) (Dm k) x1 x2 σ:=by
 simp only[B5,CH,DM,Dm,Db,Ab]; kernel_rfl
theorem GC (k n:Nat) (p0:Option Addr) (c1:Nat) (c2:Nat) (x8:Int) (σ:Aa):Cf k (n+1) p0 c1 c2 x8 σ=FI k n (Cf k) p0 c1 c2 x8 σ:=by
 simp only[Cf,Ab]; kernel_rfl
theorem JN (k n:Nat) (p0:Option Addr) (h1:Nat) (i2:Int) (p3:Option Addr) (c4:Nat) (c5:Nat) (x7:Int) (σ:Aa):Ce k (n+1) p0 h1 i2 p3 c4 c5 x7 σ=H5 k n (Ce k) (Cf k) p0 h1 i2 p3 c4 c5 x7 σ:=by
 simp only[Ce,Cf,Ab]; kernel_rfl
theorem GB (k n:Nat) (p0:Option Addr) (h1:Nat) (p2:Option Addr) (c3:Nat) (c4:Nat) (i5:Int) (x13:Int) (σ:Aa):BL k (n+1) p0 h1 p2 c3 c4 i5 x13 σ=FH k n (BL k) (Ce k) (Ea k) p0 h1 p2 c3 c4 i5 x13 σ:=by
 simp only[BL,Ce,Ea,Ab]; kernel_rfl
theorem Lu (k:Nat) (x0:Option Addr) (σ:Aa):CH (k+1) x0 σ=Jv k (Bx k) (Bt k) (BL k) x0 σ:=by
 simp only[Bx,Bt,CH,BL,Ab]; kernel_rfl
theorem V0 (k:Nat) (x0:Int) (x1:Int) (x2:Int) (x3:Option Addr × Nat × Nat) (x4_0:Int) (x4_1:Int) (x4_2:Int) (σ:Aa):fn P (XK Kn.b) H k 6 [.int .i64 x0,.int .i64 x1,.int .i64 x2,.slice x3.1 x3.2.1 x3.2.2,.agg #[.int .i64 x4_0,.int .i64 x4_1,.int .i64 x4_2]] σ=I8 k x0 x1 x2 x3 x4_0 x4_1 x4_2 σ:=by
 simp only[I8,Ab]
theorem Nm (k:Nat) (x0:Option Addr) (x1:Int) (σ:Aa):Cl k (.func (.func 99) #[] #[]) [.pointer x0,.int .i64 x1] σ=BW k x0 x1 σ:=by
 simp only[Cl,BW,Ab]; kernel_rfl
theorem Pc (k:Nat) (x0_0:Int) (x0_1:Int) (σ:Aa):HQ k (.func (.func 166) #[] #[]) [.agg #[.int .i64 x0_0,.int .i64 x0_1]] σ=CI k x0_0 x0_1 σ:=by
 simp only[HQ,CI,Ab]; kernel_rfl
theorem Pb (k:Nat) (x0:Int) (c0:Option Addr) (σ:Aa):MX k (.func (.func 179) #[] #[.pointer c0]) [.int .i64 x0] σ=C3 k x0 c0 σ:=by
 simp only[MX,C3,Ab]; kernel_rfl
theorem N8 (k:Nat) (x0_0:Int) (x0_1:Int) (x1_0:Int) (x1_1:Int) (σ:Aa):Di k (.func (.func 206) #[] #[]) [.agg #[.int .i64 x0_0,.int .i64 x0_1],.agg #[.int .i64 x1_0,.int .i64 x1_1]] σ=CZ k x0_0 x0_1 x1_0 x1_1 σ:=by
 simp only[Di,CZ,Ab]; kernel_rfl
end
theorem YG [AK] (k:Nat) (σ:Aa):@Fp _ ⟨true⟩ (k+1) σ=some (.bool true,σ):=by
 simp only[Fp,Ab]; kernel_rfl
theorem bF (a:Addr):UH P JF (.pointer (some a)) (.pointer none)=some false∧UH P JF (.pointer none) (.pointer none)=some true∧UH P Kk (.pointer (some a)) (.pointer none)=some false∧UH P Kk (.pointer none) (.pointer none)=some true∧UH P Hq (.pointer (some a)) (.pointer none)=some false∧UH P Hq (.pointer none) (.pointer none)=some true∧UH P F2 (.pointer (some a)) (.pointer none)=some false∧UH P F2 (.pointer none) (.pointer none)=some true∧UH P Mn (.pointer (some a)) (.pointer none)=some false∧UH P Mn (.pointer none) (.pointer none)=some true:=by
 refine ⟨?_, ?_, ?_, ?_, ?_, ?_, ?_, ?_, ?_, ?_⟩ <;> kernel_rfl
abbrev Vp:FuncId:=6
abbrev Mg:FuncId:=99
abbrev Oi:FuncId:=166
abbrev NJ:FuncId:=206
section
local instance uz:Kn:=⟨false⟩
variable [AK]
theorem Vh (k:Nat)  (σ:Aa):Fp (k+1)  σ=Wu k (AO k) (GY k) (Cp k) (DO k) (Cq k) (GF k)  σ:=by
 simp only[AO,GY,Cp,DO,Cq,GF,Fp,Ab]; kernel_rfl
end
end Go.Proofs.YtlaplcglpnlieaaGreat
