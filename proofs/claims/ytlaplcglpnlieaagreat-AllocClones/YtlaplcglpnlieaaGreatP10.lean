/-
 PRINTED BY A PROGRAM OF THIS SESSION'S OWN (gen2.py): the unfolding equations.
-/
import Derived.Test.YtlaplcglpnlieaaGreatP9
set_option maxRecDepth 100000
set_option linter.unusedVariables false
set_option linter.unusedSimpArgs false
set_option linter.unusedSectionVars false
namespace Go.Proofs.YtlaplcglpnlieaaGreat
open Go Go.AX
section
variable [AN] [Kn]
theorem Lx (k n:Nat) (p0:Option Addr) (c1:Nat) (c2:Nat) (p3:Option Addr) (x16:Int) (σ:Aa):D2 k (n+1) p0 c1 c2 p3 x16 σ=J4 k n (AL k) (D2 k) p0 c1 c2 p3 x16 σ:=by
 simp only[AL,D2,Ab]; kernel_rfl
theorem Ly (k n:Nat) (p0:Option Addr) (c1:Nat) (c2:Nat) (p3:Option Addr) (x17:Int) (σ:Aa):D3 k (n+1) p0 c1 c2 p3 x17 σ=J5 k n (AL k) (D3 k) p0 c1 c2 p3 x17 σ:=by
 simp only[AL,D3,Ab]; kernel_rfl
theorem T9 (k:Nat) (x0:Int) (x1:Int) (x2:Int) (x3:Option Addr × Nat × Nat) (x4:Option Addr × Nat × Nat) (σ:Aa):ID (k+1) x0 x1 x2 x3 x4 σ=PH k (Ei k) (CP k) (G4 k) (D2 k) (D3 k) (Fp k) (Lh k) (EP k) (HQ k) (Hk k) x0 x1 x2 x3 x4 σ:=by
 simp only[Ei,CP,G4,ID,D2,D3,Fp,Lh,EP,HQ,Hk,Ab]; kernel_rfl
theorem Se (k:Nat) (x0:Int) (σ:Aa):GG (k+1) x0 σ=Ty k (M0 k) x0 σ:=by
 simp only[GG,M0,Ab]; kernel_rfl
theorem bG (k:Nat) (x0:Int) (σ:Aa):KR (k+1) x0 σ=Z5 k  x0 σ:=by
 simp only[KR,Ab]; kernel_rfl
theorem Vd (k:Nat) (x0:Option Addr) (σ:Aa):G4 (k+1) x0 σ=Rx k (A9 k) (Jd k) (Hn k) (E9 k) (Ho k) x0 σ:=by
 simp only[G4,A9,Jd,Hn,E9,Ho,Ab]; kernel_rfl
theorem QH (k n:Nat) (p0:Option Addr) (c1:Nat) (c2:Nat) (p3:Option Addr) (p4:Option Addr) (p5:Option Addr) (p6:Option Addr) (x18:Int) (σ:Aa):GH k (n+1) p0 c1 c2 p3 p4 p5 p6 x18 σ=P7 k n (GH k) (NA k) p0 c1 c2 p3 p4 p5 p6 x18 σ:=by
 simp only[GH,NA,Ab]; kernel_rfl
theorem aj (k:Nat) (x0:Int) (x1:Int) (x2:Int) (x3:Option Addr × Nat × Nat) (σ:Aa):Lh (k+1) x0 x1 x2 x3 σ=XC k (GW k) (GG k) (Pm k) (LQ k) (GH k) (KR k) (KS k) x0 x1 x2 x3 σ:=by
 simp only[GW,GG,Pm,LQ,Lh,GH,KR,KS,Ab]; kernel_rfl
theorem Uq (k:Nat) (x0_0:Int) (x0_1:Int) (x0_2:Int) (σ:Aa):Fv (k+1) x0_0 x0_1 x0_2 σ=T0 k (Fu k) x0_0 x0_1 x0_2 σ:=by
 simp only[Fu,Fv,Ab]; kernel_rfl
theorem KL (k:Nat) (x0:Option Addr) (x1_0:Int) (x1_1:Int) (x1_2:Int) (σ:Aa):AL (k+1) x0 x1_0 x1_1 x1_2 σ=IP k (Ba k) (DK k) (Ck k) (Cp k) (BI k) (Fu k) (Fv k) x0 x1_0 x1_1 x1_2 σ:=by
 simp only[AL,Ba,DK,Ck,Cp,BI,Fu,Fv,Ab]; kernel_rfl
theorem Ob (k:Nat) (x0:Option Addr) (σ:Aa):AF (k+1) x0 σ=Ms k (A9 k) x0 σ:=by
 simp only[AF,A9,Ab]; kernel_rfl
theorem Ph (k:Nat) (x0:Option Addr) (x1:Int) (σ:Aa):Dk (k+1) x0 x1 σ=Ns k (AF k) x0 x1 σ:=by
 simp only[AF,Dk,Ab]; kernel_rfl
theorem Up (k:Nat) (x0_0:Int) (x0_1:Int) (x0_2:Int) (σ:Aa):Fu (k+1) x0_0 x0_1 x0_2 σ=Tz k  x0_0 x0_1 x0_2 σ:=by
 simp only[Fu,Ab]; kernel_rfl
theorem Qi (k:Nat) (x0:Option Addr) (σ:Aa):CP (k+1) x0 σ=LM k (Ba k) x0 σ:=by
 simp only[CP,Ba,Ab]; kernel_rfl
theorem Od (k n:Nat) (p0:Option Addr) (p1:Option Addr) (c2:Nat) (c3:Nat) (x3:Option Addr × Nat × Nat) (x5:Int) (σ:Aa):Ga k (n+1) p0 p1 c2 c3 x3 x5 σ=Mv k n (HO k) (Ga k) p0 p1 c2 c3 x3 x5 σ:=by
 simp only[HO,Ga,Ab]; kernel_rfl
theorem Xc (k:Nat) (x0:Option Addr) (σ:Aa):EP (k+1) x0 σ=Un k (H9 k) (Ga k) x0 σ:=by
 simp only[H9,EP,Ga,Ab]; kernel_rfl
theorem Po (k n:Nat) (p0:Option Addr) (x3:Option Addr × Nat × Nat) (x4:Int) (σ:Aa):G6 k (n+1) p0 x3 x4 σ=Nv k n (AF k) (BI k) (Dk k) (G6 k) p0 x3 x4 σ:=by
 simp only[AF,BI,Dk,G6,Ab]; kernel_rfl
theorem XN (k:Nat) (x0:Option Addr) (σ:Aa):Hk (k+1) x0 σ=UZ k (G6 k) x0 σ:=by
 simp only[Hk,G6,Ab]; kernel_rfl
theorem QI (k n:Nat) (p0:Option Addr) (c1:Nat) (c2:Nat) (p3:Option Addr) (c4:Nat) (c5:Nat) (x5:Int) (σ:Aa):HA k (n+1) p0 c1 c2 p3 c4 c5 x5 σ=P8 k n (HA k) p0 c1 c2 p3 c4 c5 x5 σ:=by
 simp only[HA,Ab]; kernel_rfl
theorem an (k:Nat) (x0:Option Addr × Nat × Nat) (x1:Option Addr × Nat × Nat) (σ:Aa):HQ (k+1) x0 x1 σ=XE k (HA k) x0 x1 σ:=by
 simp only[HQ,HA,Ab]; kernel_rfl
theorem Ve (k:Nat) (x0:Option Addr) (x1:Int) (σ:Aa):HO (k+1) x0 x1 σ=Ry k (D1 k) x0 x1 σ:=by
 simp only[HO,D1,Ab]; kernel_rfl
theorem KP (k:Nat) (x0:Option Addr) (x1:Int) (σ:Aa):BI (k+1) x0 x1 σ=Kq k (AF k) x0 x1 σ:=by
 simp only[AF,BI,Ab]; kernel_rfl
theorem Jb (k n:Nat) (h0:Nat) (c1:Nat) (i2:Int) (x10:Int) (σ:Aa):Dp k (n+1) h0 c1 i2 x10 σ=HI k n (Dp k) h0 c1 i2 x10 σ:=by
 simp only[Dp,Ab]; kernel_rfl
theorem Ja (k n:Nat) (p0:Option Addr) (h1:Nat) (c2:Nat) (p3:Option Addr) (c4:Nat) (c5:Nat) (i6:Int) (x20:Int) (σ:Aa):Dn k (n+1) p0 h1 c2 p3 c4 c5 i6 x20 σ=HH k n (Dn k) (Dp k) (BV k) p0 h1 c2 p3 c4 c5 i6 x20 σ:=by
 simp only[Dn,Dp,BV,Ab]; kernel_rfl
theorem HP (k:Nat) (x0:Option Addr) (x1:Int) (σ:Aa):DZ (k+1) x0 x1 σ=HG k (Dn k) (Cg k) (BW k) x0 x1 σ:=by
 simp only[DZ,Dn,Cg,BW,Ab]; kernel_rfl
theorem QD (k:Nat) (x0:Option Addr) (x1:Option Addr) (σ:Aa):Ei (k+1) x0 x1 σ=MN k (Ba k) (AF k) x0 x1 σ:=by
 simp only[Ei,Ba,AF,Ab]; kernel_rfl
theorem YN (k:Nat) (x0:Option Addr × Nat × Nat) (σ:Aa):LQ (k+1) x0 σ=Wx k  x0 σ:=by
 simp only[LQ,Ab]; kernel_rfl
theorem bE (k:Nat) (x0:Int) (σ:Aa):Pm (k+1) x0 σ=Z3 k  x0 σ:=by
 simp only[Pm,Ab]; kernel_rfl
theorem Vc (k:Nat) (x0:Option Addr) (x1:Int) (x2:Int) (σ:Aa):GW (k+1) x0 x1 x2 σ=UY k (DK k) (AF k) x0 x1 x2 σ:=by
 simp only[GW,DK,AF,Ab]; kernel_rfl
theorem bH (k:Nat) (x0:Option Addr) (x1:Int) (x2:Int) (σ:Aa):KS (k+1) x0 x1 x2 σ=Z6 k (An k) x0 x1 x2 σ:=by
 simp only[An,KS,Ab]; kernel_rfl
theorem ak (k:Nat) (x0:Option Addr) (x1:Option Addr) (x2:Option Addr) (x3:Option Addr) (x4_0:Int) (x4_1:Int) (x4_2:Int) (x4_3:Int) (x4_4:Int) (x4_5:Int) (σ:Aa):NA (k+1) x0 x1 x2 x3 x4_0 x4_1 x4_2 x4_3 x4_4 x4_5 σ=XD k (AL k) (EY k) (Co k) (DL k) (Cp k) (F8 k) (G5 k) (Pn k) (CQ k) (Fw k) (D4 k) (Es k) (ES k) (Em k) (Fc k) x0 x1 x2 x3 x4_0 x4_1 x4_2 x4_3 x4_4 x4_5 σ:=by
 simp only[AL,EY,Co,DL,Cp,F8,G5,Pn,NA,CQ,Fw,D4,Es,ES,Em,Fc,Ab]; kernel_rfl
theorem Pf (k:Nat) (x0:Option Addr) (x1:Int) (x2:Int) (σ:Aa):Co (k+1) x0 x1 x2 σ=Nq k (Ea k) x0 x1 x2 σ:=by
 simp only[Co,Ea,Ab]; kernel_rfl
theorem Pg (k:Nat) (x0:Option Addr) (x1:Int) (x2_0:Int) (x2_1:Int) (x2_2:Int) (σ:Aa):Cp (k+1) x0 x1 x2_0 x2_1 x2_2 σ=Nr k (FW k) (A9 k) (Fu k) (Fv k) (Ir k) (CE k) x0 x1 x2_0 x2_1 x2_2 σ:=by
 simp only[Cp,FW,A9,Fu,Fv,Ir,CE,Ab]; kernel_rfl
theorem J8 (k n:Nat) (p0:Option Addr) (h1:Nat) (h2:Nat) (p3:Option Addr) (c4:Nat) (c5:Nat) (i6:Int) (x21:Int) (σ:Aa):Da k (n+1) p0 h1 h2 p3 c4 c5 i6 x21 σ=I0 k n (C8 k) (Da k) (BV k) p0 h1 h2 p3 c4 c5 i6 x21 σ:=by
 simp only[C8,Da,BV,Ab]; kernel_rfl
theorem IC (k:Nat) (x0:Option Addr) (x1:Int) (σ:Aa):EZ (k+1) x0 x1 σ=IW k (C8 k) (Da k) (Cg k) (BW k) x0 x1 σ:=by
 simp only[EZ,C8,Da,Cg,BW,Ab]; kernel_rfl
theorem Lv (k:Nat) (x0:Option Addr) (x1:Int) (x2:Int) (x3:Int) (σ:Aa):D0 (k+1) x0 x1 x2 x3 σ=J2 k (Ea k) x0 x1 x2 x3 σ:=by
 simp only[D0,Ea,Ab]; kernel_rfl
theorem PM (k:Nat) (x0:Option Addr) (x1:Int) (σ:Aa):DL (k+1) x0 x1 σ=Ow k (D1 k) (BV k) (FY k) (CE k) x0 x1 σ:=by
 simp only[DL,D1,BV,FY,CE,Ab]; kernel_rfl
theorem Lw (k n:Nat) (p0:Option Addr) (i1:Int) (x6:Int) (σ:Aa):Ez k (n+1) p0 i1 x6 σ=J3 k n (Ez k) p0 i1 x6 σ:=by
 simp only[Ez,Ab]; kernel_rfl
theorem T8 (k:Nat) (x0:Option Addr) (x1:Int) (σ:Aa):F8 (k+1) x0 x1 σ=PG k (Cg k) (Ez k) (FX k) (Dg k) x0 x1 σ:=by
 simp only[Cg,F8,Ez,FX,Dg,Ab]; kernel_rfl
theorem WC (k:Nat) (x0:Int) (x1:Int) (σ:Aa):M0 (k+1) x0 x1 σ=WZ k (EH k) x0 x1 σ:=by
 simp only[M0,EH,Ab]; kernel_rfl
theorem PO (k:Nat) (x0:Option Addr) (σ:Aa):A9 (k+1) x0 σ=Oy k  x0 σ:=by
 simp only[A9,Ab]; kernel_rfl
theorem PB (k:Nat) (x0:Option Addr × Nat × Nat) (σ:Aa):E9 (k+1) x0 σ=Lr k  x0 σ:=by
 simp only[E9,Ab]; kernel_rfl
theorem UB (k:Nat) (x0:Option Addr × Nat × Nat) (σ:Aa):Ho (k+1) x0 σ=QA k  x0 σ:=by
 simp only[Ho,Ab]; kernel_rfl
theorem UA (k:Nat) (x0:Option Addr) (σ:Aa):Hn (k+1) x0 σ=Q9 k (B3 k) (FT k) x0 σ:=by
 simp only[Hn,B3,FT,Ab]; kernel_rfl
theorem Vk (k:Nat) (x0:Option Addr) (σ:Aa):An (k+1) x0 σ=R8 k  x0 σ:=by
 simp only[An,Ab]; kernel_rfl
theorem U0 (k:Nat) (x0:Option Addr) (x1:Int) (x2:Int) (σ:Aa):CQ (k+1) x0 x1 x2 σ=Qy k (An k) (Cu k) (Gq k) x0 x1 x2 σ:=by
 simp only[CQ,An,Cu,Gq,Ab]; kernel_rfl
theorem Jv (k n:Nat) (p0:Option Addr) (i1:Int) (i2:Int) (x9:Int) (σ:Aa):Cr k (n+1) p0 i1 i2 x9 σ=Hg k n (Cr k) p0 i1 i2 x9 σ:=by
 simp only[Cr,Ab]; kernel_rfl
theorem Jw (k n:Nat) (p0:Option Addr) (i1:Int) (i2:Int) (i3:Int) (x10:Int) (σ:Aa):Cs k (n+1) p0 i1 i2 i3 x10 σ=Hh k n (Cs k) p0 i1 i2 i3 x10 σ:=by
 simp only[Cs,Ab]; kernel_rfl
theorem QJ (k:Nat) (x0:Option Addr) (x1:Int) (x2:Int) (x3:Int) (σ:Aa):Ej (k+1) x0 x1 x2 x3 σ=MP k (Cr k) (Cs k) (An k) (Cu k) (Gq k) x0 x1 x2 x3 σ:=by
 simp only[Ej,Cr,Cs,An,Cu,Gq,Ab]; kernel_rfl
theorem KQ (k n:Nat) (p0:Option Addr) (i1:Int) (i2:Int) (x6:Int) (σ:Aa):Dh k (n+1) p0 i1 i2 x6 σ=IX k n (Dh k) p0 i1 i2 x6 σ:=by
 simp only[Dh,Ab]; kernel_rfl
theorem SM (k:Nat) (x0:Option Addr) (x1:Int) (σ:Aa):Es (k+1) x0 x1 σ=Pb k (An k) (Er k) (Dh k) (Ca k) (Cu k) x0 x1 σ:=by
 simp only[An,Er,Es,Dh,Ca,Cu,Ab]; kernel_rfl
theorem MW (k n:Nat) (p0:Option Addr) (i1:Int) (i2:Int) (x8:Int) (σ:Aa):Fa k (n+1) p0 i1 i2 x8 σ=KC k n (Fa k) p0 i1 i2 x8 σ:=by
 simp only[Fa,Ab]; kernel_rfl
theorem Vf (k:Nat) (x0:Option Addr) (x1:Int) (x2:Int) (σ:Aa):G5 (k+1) x0 x1 x2 σ=Rz k (Fa k) (FX k) (Dg k) (GP k) x0 x1 x2 σ:=by
 simp only[G5,Fa,FX,Dg,GP,Ab]; kernel_rfl
theorem LV (k n:Nat) (p0:Option Addr) (i1:Int) (i2:Int) (i3:Int) (x8:Int) (σ:Aa):DS k (n+1) p0 i1 i2 i3 x8 σ=Kc k n (DS k) p0 i1 i2 i3 x8 σ:=by
 simp only[DS,Ab]; kernel_rfl
theorem U4 (k:Nat) (x0:Option Addr) (x1:Int) (x2:Int) (σ:Aa):ES (k+1) x0 x1 x2 σ=Q3 k (An k) (DS k) (Ca k) (Cu k) (Gq k) x0 x1 x2 σ:=by
 simp only[An,ES,DS,Ca,Cu,Gq,Ab]; kernel_rfl
theorem U3 (k:Nat) (x0:Option Addr) (x1:Int) (x2_0:Int) (x2_1:Int) (x2_2:Int) (σ:Aa):D4 (k+1) x0 x1 x2_0 x2_1 x2_2 σ=Q2 k (An k) (HT k) (GZ k) (Gp k) x0 x1 x2_0 x2_1 x2_2 σ:=by
 simp only[An,D4,HT,GZ,Gp,Ab]; kernel_rfl
theorem Vj (k:Nat) (x0:Option Addr) (x1:Int) (σ:Aa):Fw (k+1) x0 x1 σ=R7 k (Ct k) (Jf k) (Gb k) x0 x1 σ:=by
 simp only[Ct,Fw,Jf,Gb,Ab]; kernel_rfl
theorem TA (k:Nat) (x0:Option Addr) (σ:Aa):Bt (k+1) x0 σ=PI k (An k) x0 σ:=by
 simp only[Bt,An,Ab]; kernel_rfl
theorem Xb (k:Nat) (x0:Option Addr) (σ:Aa):H9 (k+1) x0 σ=Um k (Db k) (A9 k) x0 σ:=by
 simp only[H9,Db,A9,Ab]; kernel_rfl
theorem NB (k n:Nat) (p0:Option Addr) (x3:Option Addr × Nat × Nat) (x4:Int) (σ:Aa):F9 k (n+1) p0 x3 x4 σ=LA k n (F9 k) (An k) p0 x3 x4 σ:=by
 simp only[F9,An,Ab]; kernel_rfl
theorem Wm (k:Nat) (x0:Option Addr) (σ:Aa):Je (k+1) x0 σ=SE k (F9 k) x0 σ:=by
 simp only[Je,F9,Ab]; kernel_rfl
theorem U6 (k:Nat) (x0:Option Addr) (x1:Int) (σ:Aa):Bl (k+1) x0 x1 σ=Q5 k (An k) x0 x1 σ:=by
 simp only[An,Bl,Ab]; kernel_rfl
theorem U5 (k:Nat) (x0:Option Addr) (x1:Int) (σ:Aa):BZ (k+1) x0 x1 σ=Q4 k (An k) x0 x1 σ:=by
 simp only[An,BZ,Ab]; kernel_rfl
theorem N8 (k:Nat) (x0:Option Addr) (x1:Int) (σ:Aa):Cg (k+1) x0 x1 σ=L8 k (Db k) (A9 k) x0 x1 σ:=by
 simp only[Cg,Db,A9,Ab]; kernel_rfl
theorem Hm (k n:Nat) (p0:Option Addr) (i1:Int) (x5:Option Addr × Nat × Nat) (x6:Int) (σ:Aa):Ek k (n+1) p0 i1 x5 x6 σ=G3 k n (An k) (Ek k) p0 i1 x5 x6 σ:=by
 simp only[An,Ek,Ab]; kernel_rfl
theorem SL (k:Nat) (x0:Option Addr) (x1:Int) (σ:Aa):Er (k+1) x0 x1 σ=Pa k (Ek k) x0 x1 σ:=by
 simp only[Er,Ek,Ab]; kernel_rfl
theorem MZ (k n:Nat) (p0:Option Addr) (p1:Option Addr) (c2:Nat) (c3:Nat) (x5:Option Addr × Nat × Nat) (x6:Int) (x8:Int) (σ:Aa):Dr k (n+1) p0 p1 c2 c3 x5 x6 x8 σ=KF k n (Dr k) (Ct k) (BO k) p0 p1 c2 c3 x5 x6 x8 σ:=by
 simp only[Dr,Ct,BO,Ab]; kernel_rfl
theorem Vi (k:Nat) (x0:Option Addr) (x1:Int) (σ:Aa):HS (k+1) x0 x1 σ=R6 k (Dr k) (Er k) (Bl k) x0 x1 σ:=by
 simp only[HS,Dr,Er,Bl,Ab]; kernel_rfl
theorem LU (k n:Nat) (p0:Option Addr) (i1:Int) (i2:Int) (x7:Bool) (x8:Int) (σ:Aa):DR k (n+1) p0 i1 i2 x7 x8 σ=Kb k n (HR k) (DR k) p0 i1 i2 x7 x8 σ:=by
 simp only[HR,DR,Ab]; kernel_rfl
theorem LS (k n:Nat) (p0:Option Addr) (i1:Int) (x5:Option Addr × Nat × Nat) (x6:Int) (σ:Aa):DQ k (n+1) p0 i1 x5 x6 σ=Ka k n (DQ k) (DR k) p0 i1 x5 x6 σ:=by
 simp only[DQ,DR,Ab]; kernel_rfl
theorem U2 (k:Nat) (x0:Option Addr) (x1:Int) (σ:Aa):Hl (k+1) x0 x1 σ=Q0 k (DQ k) (Bl k) x0 x1 σ:=by
 simp only[Hl,DQ,Bl,Ab]; kernel_rfl
theorem Lu (k:Nat) (x0:Option Addr) (σ:Aa):Ba (k+1) x0 σ=J1 k  x0 σ:=by
 simp only[Ba,Ab]; kernel_rfl
theorem PK (k:Nat)  (σ:Aa):DK (k+1)  σ=Ou k   σ:=by
 simp only[DK,Ab]; kernel_rfl
theorem Ju (k n:Nat) (p0:Option Addr) (i1:Int) (x7:Int) (σ:Aa):BR k (n+1) p0 i1 x7 σ=Hf k n (BR k) (AF k) (D0 k) p0 i1 x7 σ:=by
 simp only[BR,AF,D0,Ab]; kernel_rfl
theorem KN (k:Nat) (x0:Option Addr) (x1:Int) (σ:Aa):BU (k+1) x0 x1 σ=IU k (BR k) x0 x1 σ:=by
 simp only[BU,BR,Ab]; kernel_rfl
theorem Oc (k:Nat) (x0:Option Addr) (x1:Int) (σ:Aa):D1 (k+1) x0 x1 σ=Mt k (GF k) (A9 k) x0 x1 σ:=by
 simp only[GF,A9,D1,Ab]; kernel_rfl
theorem Ur (k:Nat) (x0:Int) (σ:Aa):JB (k+1) x0 σ=T1 k  x0 σ:=by
 simp only[JB,Ab]; kernel_rfl
theorem LC (k:Nat) (x0:Option Addr) (x1:Int) (σ:Aa):BW (k+1) x0 x1 σ=Lf k (CI k) x0 x1 σ:=by
 simp only[CI,BW,Ab]; kernel_rfl
theorem PQ (k:Nat) (x0:Option Addr) (x1:Int) (σ:Aa):BV (k+1) x0 x1 σ=Oz k (Fv k) (JB k) x0 x1 σ:=by
 simp only[BV,Fv,JB,Ab]; kernel_rfl
theorem Rl (k:Nat) (x0:Option Addr) (σ:Aa):CJ (k+1) x0 σ=Nw k (An k) x0 σ:=by
 simp only[An,CJ,Ab]; kernel_rfl
theorem QK (k:Nat) (x0:Option Addr) (x1_0:Int) (x1_1:Int) (x1_2:Int) (σ:Aa):Em (k+1) x0 x1_0 x1_1 x1_2 σ=MQ k (Ej k) (EM k) (HU k) (Gp k) (BO k) (CJ k) (D5 k) (DM k) (Fe k) (Ax k) (E3 k) x0 x1_0 x1_1 x1_2 σ:=by
 simp only[Ej,EM,HU,Gp,BO,Em,CJ,D5,DM,Fe,Ax,E3,Ab]; kernel_rfl
theorem bF (k:Nat) (x0:Option Addr) (x1:Int) (σ:Aa):Pn (k+1) x0 x1 σ=Z4 k (Je k) x0 x1 σ:=by
 simp only[Pn,Je,Ab]; kernel_rfl
theorem QE (k:Nat) (x0:Option Addr) (σ:Aa):EY (k+1) x0 σ=MO k (Ba k) x0 σ:=by
 simp only[EY,Ba,Ab]; kernel_rfl
theorem QL (k:Nat) (x0:Option Addr) (σ:Aa):Fc (k+1) x0 σ=MR k (CJ k) x0 σ:=by
 simp only[CJ,Fc,Ab]; kernel_rfl
theorem Jc (k n:Nat) (p0:Option Addr) (i1:Int) (h2:Nat) (i3:Int) (x54:Int) (σ:Aa):Dq k (n+1) p0 i1 h2 i3 x54 σ=HJ k n (Dq k) p0 i1 h2 i3 x54 σ:=by
 simp only[Dq,Ab]; kernel_rfl
theorem Pj (k:Nat) (x0:Option Addr) (x1:Int) (x2:Int) (x3_0:Int) (x3_1:Int) (x4_0:Int) (x4_1:Int) (σ:Aa):Ea (k+1) x0 x1 x2 x3_0 x3_1 x4_0 x4_1 σ=Nt k (Dq k) (A9 k) (CI k) (GP k) (BX k) x0 x1 x2 x3_0 x3_1 x4_0 x4_1 σ:=by
 simp only[Ea,Dq,A9,CI,GP,BX,Ab]; kernel_rfl
theorem J9 (k n:Nat) (p0:Option Addr) (i1:Int) (i2:Int) (i3:Int) (x10:Int) (σ:Aa):Dc k (n+1) p0 i1 i2 i3 x10 σ=I6 k n (FV k) (Dc k) p0 i1 i2 i3 x10 σ:=by
 simp only[FV,Dc,Ab]; kernel_rfl
theorem PN (k:Nat) (x0:Option Addr) (x1:Int) (x2:Int) (x3:Int) (σ:Aa):FW (k+1) x0 x1 x2 x3 σ=Ox k (Dc k) (Dg k) x0 x1 x2 x3 σ:=by
 simp only[FW,Dc,Dg,Ab]; kernel_rfl
theorem SK (k:Nat) (x0_0:Int) (x0_1:Int) (x0_2:Int) (σ:Aa):Ir (k+1) x0_0 x0_1 x0_2 σ=Sd k  x0_0 x0_1 x0_2 σ:=by
 simp only[Ir,Ab]; kernel_rfl
theorem PW (k:Nat) (x0:Option Addr) (x1:Int) (x2:Int) (σ:Aa):CE (k+1) x0 x1 x2 σ=O6 k (ET k) (Gd k) x0 x1 x2 σ:=by
 simp only[CE,ET,Gd,Ab]; kernel_rfl
theorem J7 (k:Nat) (x0:Int) (c0:Option Addr) (c1:Option Addr) (σ:Aa):C8 (k+1) x0 c0 c1 σ=Iz k  x0 c0 c1 σ:=by
 simp only[C8,Ab]; kernel_rfl
theorem PV (k:Nat) (x0:Option Addr) (x1:Int) (σ:Aa):Gc (k+1) x0 x1 σ=O5 k (Di k) (D6 k) x0 x1 σ:=by
 simp only[Gc,Di,D6,Ab]; kernel_rfl
theorem PT (k:Nat) (x0:Option Addr) (x1:Int) (x2:Int) (σ:Aa):FY (k+1) x0 x1 x2 σ=O1 k  x0 x1 x2 σ:=by
 simp only[FY,Ab]; kernel_rfl
theorem Wk (k:Nat) (x0:Option Addr) (x1:Int) (x2:Bool) (σ:Aa):FX (k+1) x0 x1 x2 σ=SD k (A9 k) (CI k) x0 x1 x2 σ:=by
 simp only[FX,A9,CI,Ab]; kernel_rfl
theorem JA (k n:Nat) (p0:Option Addr) (i1:Int) (x5:Int) (σ:Aa):DO k (n+1) p0 i1 x5 σ=IA k n (DO k) p0 i1 x5 σ:=by
 simp only[DO,Ab]; kernel_rfl
theorem PS (k:Nat) (x0:Option Addr) (x1:Int) (σ:Aa):Dg (k+1) x0 x1 σ=O0 k (DO k) x0 x1 σ:=by
 simp only[Dg,DO,Ab]; kernel_rfl
theorem LY (k:Nat) (x0:Option Addr × Nat × Nat) (x1:Int) (σ:Aa):EH (k+1) x0 x1 σ=Kg k (Ge k) x0 x1 σ:=by
 simp only[EH,Ge,Ab]; kernel_rfl
theorem Pr (k:Nat) (x0:Option Addr) (σ:Aa):B3 (k+1) x0 σ=N2 k  x0 σ:=by
 simp only[B3,Ab]; kernel_rfl
theorem Sg (k:Nat) (x0:Option Addr × Nat × Nat) (σ:Aa):FT (k+1) x0 σ=NX k  x0 σ:=by
 simp only[FT,Ab]; kernel_rfl
theorem U8 (k:Nat) (x0:Option Addr) (x1:Int) (σ:Aa):Cu (k+1) x0 x1 σ=Q7 k  x0 x1 σ:=by
 simp only[Cu,Ab]; kernel_rfl
theorem YR (k:Nat) (x0:Int) (σ:Aa):Gq (k+1) x0 σ=W8 k  x0 σ:=by
 simp only[Gq,Ab]; kernel_rfl
theorem LW (k n:Nat) (p0:Option Addr) (i1:Int) (x5:Int) (σ:Aa):DT k (n+1) p0 i1 x5 σ=Ke k n (DT k) p0 i1 x5 σ:=by
 simp only[DT,Ab]; kernel_rfl
theorem U7 (k:Nat) (x0:Option Addr) (x1:Int) (σ:Aa):Ca (k+1) x0 x1 σ=Q6 k (DT k) x0 x1 σ:=by
 simp only[Ca,DT,Ab]; kernel_rfl
theorem Us (k:Nat) (x0:Int) (σ:Aa):GP (k+1) x0 σ=T3 k  x0 σ:=by
 simp only[GP,Ab]; kernel_rfl
theorem YP (k:Nat) (x0_0:Int) (x0_1:Int) (x0_2:Int) (σ:Aa):Gp (k+1) x0_0 x0_1 x0_2 σ=Wz k  x0_0 x0_1 x0_2 σ:=by
 simp only[Gp,Ab]; kernel_rfl
theorem Na (k n:Nat) (p0:Option Addr) (i1:Int) (i2:Int) (h3:Nat) (x10:Int) (σ:Aa):Ds k (n+1) p0 i1 i2 h3 x10 σ=KG k n (Ds k) (BO k) p0 i1 i2 h3 x10 σ:=by
 simp only[Ds,BO,Ab]; kernel_rfl
theorem Vl (k:Nat) (x0:Option Addr) (x1:Int) (x2_0:Int) (x2_1:Int) (x2_2:Int) (x3:Int) (σ:Aa):HT (k+1) x0 x1 x2_0 x2_1 x2_2 x3 σ=R9 k (Ca k) (Ds k) (EM k) (HU k) (BO k) x0 x1 x2_0 x2_1 x2_2 x3 σ:=by
 simp only[Ca,HT,Ds,EM,HU,BO,Ab]; kernel_rfl
theorem NC (k n:Nat) (p0:Option Addr) (h1:Nat) (x4:Int) (σ:Aa):EB k (n+1) p0 h1 x4 σ=LB k n (EB k) p0 h1 x4 σ:=by
 simp only[EB,Ab]; kernel_rfl
theorem Wo (k:Nat) (x0:Option Addr) (x1_0:Int) (x1_1:Int) (x1_2:Int) (x1_3:Int) (x1_4:Int) (x1_5:Option Addr × Nat × Nat) (x1_6:Option Addr × Nat × Nat) (x1_7:Bool) (σ:Aa):GZ (k+1) x0 x1_0 x1_1 x1_2 x1_3 x1_4 x1_5 x1_6 x1_7 σ=SG k (EB k) x0 x1_0 x1_1 x1_2 x1_3 x1_4 x1_5 x1_6 x1_7 σ:=by
 simp only[GZ,EB,Ab]; kernel_rfl
theorem U9 (k:Nat) (x0:Option Addr) (x1:Int) (σ:Aa):Gb (k+1) x0 x1 σ=Q8 k (Ct k) (An k) x0 x1 σ:=by
 simp only[Ct,An,Gb,Ab]; kernel_rfl
theorem Wn (k:Nat) (x0:Option Addr) (x1:Int) (σ:Aa):Jf (k+1) x0 x1 σ=SF k  x0 x1 σ:=by
 simp only[Jf,Ab]; kernel_rfl
theorem LR (k n:Nat) (p0:Option Addr) (i1:Int) (x5:Int) (σ:Aa):EG k (n+1) p0 i1 x5 σ=JZ k n (EG k) p0 i1 x5 σ:=by
 simp only[EG,Ab]; kernel_rfl
theorem U1 (k:Nat) (x0:Option Addr) (x1:Int) (σ:Aa):Ct (k+1) x0 x1 σ=Qz k (EG k) (An k) x0 x1 σ:=by
 simp only[Ct,EG,An,Ab]; kernel_rfl
theorem QG (k:Nat) (x0:Option Addr) (x1:Int) (σ:Aa):GF (k+1) x0 x1 σ=P6 k (A9 k) (Gc k) x0 x1 σ:=by
 simp only[GF,A9,Gc,Ab]; kernel_rfl
theorem PL (k:Nat) (x0:Option Addr) (x1:Int) (σ:Aa):FV (k+1) x0 x1 σ=Ov k (A9 k) (BV k) (Fz k) x0 x1 σ:=by
 simp only[FV,A9,BV,Fz,Ab]; kernel_rfl
theorem MY (k n:Nat) (p0:Option Addr) (i1:Int) (x6:Int) (σ:Aa):Fb k (n+1) p0 i1 x6 σ=KE k n (Fb k) (BO k) p0 i1 x6 σ:=by
 simp only[Fb,BO,Ab]; kernel_rfl
theorem Vh (k:Nat) (x0:Option Addr) (x1:Int) (σ:Aa):HR (k+1) x0 x1 σ=R5 k (Fb k) (An k) x0 x1 σ:=by
 simp only[HR,Fb,An,Ab]; kernel_rfl
theorem YQ (k:Nat) (x0_0:Int) (x0_1:Int) (x0_2:Int) (σ:Aa):BO (k+1) x0_0 x0_1 x0_2 σ=W7 k (Gp k) x0_0 x0_1 x0_2 σ:=by
 simp only[Gp,BO,Ab]; kernel_rfl
theorem FH (k n:Nat) (p0:Option Addr) (i1:Int) (x7:Option Addr × Nat × Nat) (x8:Int) (x9:Int) (σ:Aa):BN k (n+1) p0 i1 x7 x8 x9 σ=Fs k n (BN k) (CK k) p0 i1 x7 x8 x9 σ:=by
 simp only[BN,CK,Ab]; kernel_rfl
theorem N9 (k:Nat) (x0:Option Addr) (x1:Int) (x2:Int) (σ:Aa):Db (k+1) x0 x1 x2 σ=L9 k (BN k) (CK k) x0 x1 x2 σ:=by
 simp only[Db,BN,CK,Ab]; kernel_rfl
theorem Pk (k:Nat) (x0:Option Addr) (x1:Int) (σ:Aa):CI (k+1) x0 x1 σ=Nu k (A9 k) x0 x1 σ:=by
 simp only[A9,CI,Ab]; kernel_rfl
theorem YO (k:Nat) (x0_0:Int) (x0_1:Int) (x0_2:Int) (σ:Aa):EM (k+1) x0_0 x0_1 x0_2 σ=Wy k (BO k) x0_0 x0_1 x0_2 σ:=by
 simp only[EM,BO,Ab]; kernel_rfl
theorem ao (k:Nat) (x0_0:Int) (x0_1:Int) (x0_2:Int) (σ:Aa):HU (k+1) x0_0 x0_1 x0_2 σ=XF k (BO k) x0_0 x0_1 x0_2 σ:=by
 simp only[HU,BO,Ab]; kernel_rfl
theorem QO (k n:Nat) (p0:Option Addr) (i1:Int) (i2:Int) (x6:Int) (σ:Aa):HC k (n+1) p0 i1 i2 x6 σ=P9 k n (Bl k) (HC k) p0 i1 i2 x6 σ:=by
 simp only[Bl,HC,Ab]; kernel_rfl
theorem Xd (k n:Nat) (p0:Option Addr) (i1:Int) (x5:Int) (σ:Aa):HB k (n+1) p0 i1 x5 σ=Uo k n (Bt k) (HB k) (HC k) p0 i1 x5 σ:=by
 simp only[Bt,HB,HC,Ab]; kernel_rfl
theorem aq (k:Nat) (x0:Option Addr) (x1:Int) (σ:Aa):E3 (k+1) x0 x1 σ=XG k (HB k) x0 x1 σ:=by
 simp only[E3,HB,Ab]; kernel_rfl
theorem QN (k:Nat) (x0:Option Addr) (x1:Int) (x2:Int) (x3_0:Int) (x3_1:Int) (x3_2:Int) (σ:Aa):Ax (k+1) x0 x1 x2 x3_0 x3_1 x3_2 σ=MT k (CQ k) (D4 k) (BZ k) (EM k) x0 x1 x2 x3_0 x3_1 x3_2 σ:=by
 simp only[CQ,D4,BZ,EM,Ax,Ab]; kernel_rfl
theorem Rm (k:Nat) (x0:Option Addr) (x1_0:Int) (x1_1:Int) (x1_2:Int) (x2:Int) (σ:Aa):D5 (k+1) x0 x1_0 x1_1 x1_2 x2 σ=Nx k (Ax k) (E3 k) x0 x1_0 x1_1 x1_2 x2 σ:=by
 simp only[D5,Ax,E3,Ab]; kernel_rfl
theorem Jy (k n:Nat) (p0:Option Addr) (i1:Int) (h2:Nat) (i3:Int) (p4:Option Addr) (c5:Nat) (c6:Nat) (x10:Int) (σ:Aa):Cw k (n+1) p0 i1 h2 i3 p4 c5 c6 x10 σ=Hj k n (Cw k) (Ax k) p0 i1 h2 i3 p4 c5 c6 x10 σ:=by
 simp only[Cw,Ax,Ab]; kernel_rfl
theorem Jx (k n:Nat) (p0:Option Addr) (i1:Int) (h2:Nat) (x8:Int) (σ:Aa):Cv k (n+1) p0 i1 h2 x8 σ=Hi k n (Bt k) (BZ k) (Bl k) (Cv k) (Cw k) (JT k) p0 i1 h2 x8 σ:=by
 simp only[Bt,BZ,Bl,Cv,Cw,JT,Ab]; kernel_rfl
theorem QM (k:Nat) (x0:Option Addr) (x1_0:Int) (x1_1:Int) (x1_2:Int) (x2:Int) (σ:Aa):Fe (k+1) x0 x1_0 x1_1 x1_2 x2 σ=MS k (D5 k) (Cv k) (Fy k) x0 x1_0 x1_1 x1_2 x2 σ:=by
 simp only[D5,Fe,Cv,Fy,Ab]; kernel_rfl
theorem Jg (k n:Nat) (p0:Option Addr) (i1:Int) (p2:Option Addr) (c3:Nat) (c4:Nat) (x7:Int) (σ:Aa):CS k (n+1) p0 i1 p2 c3 c4 x7 σ=GM k n (CS k) p0 i1 p2 c3 c4 x7 σ:=by
 simp only[CS,Ab]; kernel_rfl
theorem Jh (k n:Nat) (p0:Option Addr) (i1:Int) (p2:Option Addr) (c3:Nat) (c4:Nat) (x10:Int) (x11:Int) (σ:Aa):CT k (n+1) p0 i1 p2 c3 c4 x10 x11 σ=GN k n (CT k) p0 i1 p2 c3 c4 x10 x11 σ:=by
 simp only[CT,Ab]; kernel_rfl
theorem Qj (k:Nat) (x0:Option Addr) (x1:Int) (σ:Aa):DM (k+1) x0 x1 σ=LN k (CS k) (CT k) (Fx k) x0 x1 σ:=by
 simp only[DM,CS,CT,Fx,Ab]; kernel_rfl
theorem GX (k:Nat) (x0:Option Addr × Nat × Nat) (x1:Value) (σ:Aa):BX (k+1) x0 x1 σ=Ft k (C6 k) x0 x1 σ:=by
 simp only[BX,C6,Ab]; kernel_rfl
theorem MX (k:Nat) (x0_0:Int) (x0_1:Int) (σ:Aa):CH (k+1) x0_0 x0_1 σ=KD k  x0_0 x0_1 σ:=by
 simp only[CH,Ab]; kernel_rfl
theorem Oe (k:Nat) (x0:Option Addr) (x1:Int) (x2:Option Addr × Nat × Nat) (σ:Aa):ET (k+1) x0 x1 x2 σ=Mw k (B3 k) (D6 k) (Dw k) x0 x1 x2 σ:=by
 simp only[ET,B3,D6,Dw,Ab]; kernel_rfl
theorem PY (k:Nat) (x0:Option Addr) (x1:Int) (x2:Int) (σ:Aa):Gd (k+1) x0 x1 x2 σ=O8 k (CL k) x0 x1 x2 σ:=by
 simp only[CL,Gd,Ab]; kernel_rfl
theorem Of (k:Nat) (x0:Option Addr) (x1:Int) (σ:Aa):D6 (k+1) x0 x1 σ=Mx k (B3 k) x0 x1 σ:=by
 simp only[B3,D6,Ab]; kernel_rfl
theorem PX (k:Nat) (x0:Option Addr) (x1:Int) (σ:Aa):Di (k+1) x0 x1 σ=O7 k (CL k) x0 x1 σ:=by
 simp only[Di,CL,Ab]; kernel_rfl
theorem LZ (k n:Nat) (p0:Option Addr) (c1:Nat) (c2:Nat) (i3:Int) (i4:Int) (x8:Int) (σ:Aa):DU k (n+1) p0 c1 c2 i3 i4 x8 σ=Kh k n (DU k) p0 c1 c2 i3 i4 x8 σ:=by
 simp only[DU,Ab]; kernel_rfl
theorem Oh (k:Nat) (x0:Option Addr × Nat × Nat) (x1:Int) (σ:Aa):Ge (k+1) x0 x1 σ=Mz k (DU k) x0 x1 σ:=by
 simp only[Ge,DU,Ab]; kernel_rfl
theorem Ji (k n:Nat) (p0:Option Addr) (i1:Int) (x8:Int) (σ:Aa):Dt k (n+1) p0 i1 x8 σ=HK k n (Dt k) (Di k) p0 i1 x8 σ:=by
 simp only[Dt,Di,Ab]; kernel_rfl
theorem Pp (k:Nat) (x0:Option Addr) (x1:Int) (x2:Int) (σ:Aa):Fz (k+1) x0 x1 x2 σ=N0 k (Dt k) (B3 k) x0 x1 x2 σ:=by
 simp only[Fz,Dt,B3,Ab]; kernel_rfl
theorem Nb (k n:Nat) (p0:Option Addr) (i1:Int) (x8:Int) (σ:Aa):Du k (n+1) p0 i1 x8 σ=KH k n (Du k) (Di k) p0 i1 x8 σ:=by
 simp only[Du,Di,Ab]; kernel_rfl
theorem Pq (k:Nat) (x0:Option Addr) (x1:Int) (x2:Int) (σ:Aa):CK (k+1) x0 x1 x2 σ=N1 k (Du k) (B3 k) x0 x1 x2 σ:=by
 simp only[CK,Du,B3,Ab]; kernel_rfl
theorem Ro (k:Nat) (x0:Option Addr) (x1_0:Int) (x1_1:Int) (x1_2:Int) (x2:Int) (σ:Aa):Fy (k+1) x0 x1_0 x1_1 x1_2 x2 σ=Nz k (Ax k) (E3 k) x0 x1_0 x1_1 x1_2 x2 σ:=by
 simp only[Fy,Ax,E3,Ab]; kernel_rfl
theorem PU (k n:Nat) (p0:Option Addr) (c1:Nat) (c2:Nat) (x5:Option Addr × Nat × Nat) (x7:Int) (σ:Aa):Ha k (n+1) p0 c1 c2 x5 x7 σ=O2 k n (Ha k) p0 c1 c2 x5 x7 σ:=by
 simp only[Ha,Ab]; kernel_rfl
theorem YS (k:Nat) (x0:Option Addr) (x1:Int) (σ:Aa):JT (k+1) x0 x1 σ=W9 k (Hl k) (Ha k) x0 x1 σ:=by
 simp only[Hl,JT,Ha,Ab]; kernel_rfl
theorem JO (k n:Nat) (p0:Option Addr) (x3:Option Addr × Nat × Nat) (x4:Int) (σ:Aa):Dv k (n+1) p0 x3 x4 σ=H0 k n (Bt k) (HS k) (BZ k) (Bl k) (Dv k) p0 x3 x4 σ:=by
 simp only[Bt,HS,BZ,Bl,Dv,Ab]; kernel_rfl
theorem Rn (k:Nat) (x0:Option Addr) (σ:Aa):Fx (k+1) x0 σ=Ny k (Dv k) x0 σ:=by
 simp only[Fx,Dv,Ab]; kernel_rfl
theorem EN (k n:Nat) (p0:Option Addr) (c1:Nat) (c2:Nat) (v3:Value) (i4:Int) (x8:Int) (σ:Aa):Bp k (n+1) p0 c1 c2 v3 i4 x8 σ=DX k n (HN k) (Bp k) p0 c1 c2 v3 i4 x8 σ:=by
 simp only[HN,Bp,Ab]; kernel_rfl
theorem HV (k:Nat) (x0:Option Addr × Nat × Nat) (x1:Value) (σ:Aa):C6 (k+1) x0 x1 σ=Gv k (Bp k) x0 x1 σ:=by
 simp only[C6,Bp,Ab]; kernel_rfl
theorem JP (k:Nat) (x0:Option Addr × Nat × Nat) (x1:Value) (σ:Aa):Dw (k+1) x0 x1 σ=H5 k (E4 k) x0 x1 σ:=by
 simp only[Dw,E4,Ab]; kernel_rfl
theorem LX (k:Nat) (x0:Int) (c0:Option Addr) (σ:Aa):C1 (k+1) x0 c0 σ=Kf k (EU k) x0 c0 σ:=by
 simp only[C1,EU,Ab]; kernel_rfl
theorem Og (k:Nat) (x0:Option Addr) (x1:Int) (σ:Aa):EU (k+1) x0 x1 σ=My k (CL k) x0 x1 σ:=by
 simp only[CL,EU,Ab]; kernel_rfl
theorem Ps (k:Nat) (x0:Option Addr) (σ:Aa):CL (k+1) x0 σ=N3 k  x0 σ:=by
 simp only[CL,Ab]; kernel_rfl
theorem GI (k n:Nat) (p0:Option Addr) (c1:Nat) (c2:Nat) (v3:Value) (i4:Int) (x8:Int) (σ:Aa):CC k (n+1) p0 c1 c2 v3 i4 x8 σ=FG k n (MV k) (CC k) p0 c1 c2 v3 i4 x8 σ:=by
 simp only[MV,CC,Ab]; kernel_rfl
theorem Lz (k:Nat) (x0:Option Addr × Nat × Nat) (x1:Value) (σ:Aa):E4 (k+1) x0 x1 σ=J6 k (CC k) x0 x1 σ:=by
 simp only[E4,CC,Ab]; kernel_rfl
theorem N6 (k:Nat) (x1:Option Addr) (x2:Int) (σ:Aa):CY (k+1) x1 x2 σ=L6 k (AO k) (AR k) x1 x2 σ:=by
 simp only[AO,AR,CY,Ab]; kernel_rfl
theorem KO (k:Nat) (x0:Option Addr) (x1:Option Addr × Nat × Nat) (σ:Aa):AR (k+1) x0 x1 σ=IV k (Bu k) x0 x1 σ:=by
 simp only[Bu,AR,Ab]; kernel_rfl
theorem GB (k n:Nat) (i0:Int) (i1:Int) (p2:Option Addr) (c3:Nat) (c4:Nat) (i5:Int) (x7:Option Addr × Nat × Nat) (x27:Int) (σ:Aa):BE k (n+1) i0 i1 p2 c3 c4 i5 x7 x27 σ=FD k n (BE k) i0 i1 p2 c3 c4 i5 x7 x27 σ:=by
 simp only[BE,Ab]; kernel_rfl
theorem GA (k n:Nat) (p0:Option Addr) (i1:Int) (i2:Int) (p3:Option Addr) (c4:Nat) (c5:Nat) (i6:Int) (x7:Option Addr × Nat × Nat) (x16:Int) (σ:Aa):BB k (n+1) p0 i1 i2 p3 c4 c5 i6 x7 x16 σ=FC k n (BB k) (BE k) (EZ k) p0 i1 i2 p3 c4 c5 i6 x7 x16 σ:=by
 simp only[BB,BE,EZ,Ab]; kernel_rfl
theorem Ls (k:Nat) (x0:Option Addr) (x1:Int) (x2:Int) (σ:Aa):AO (k+1) x0 x1 x2 σ=Jz k (Bq k) (BB k) x0 x1 x2 σ:=by
 simp only[Bq,AO,BB,Ab]; kernel_rfl
theorem Gw (k n:Nat) (p0:Option Addr) (h1:Nat) (x4:Int) (σ:Aa):BQ k (n+1) p0 h1 x4 σ=Fq k n (BQ k) (AF k) (Co k) p0 h1 x4 σ:=by
 simp only[BQ,AF,Co,Ab]; kernel_rfl
theorem KM (k:Nat) (x0:Option Addr) (σ:Aa):Bu (k+1) x0 σ=IQ k (BQ k) x0 σ:=by
 simp only[Bu,BQ,Ab]; kernel_rfl
theorem FU (k n:Nat) (p0:Option Addr) (i1:Int) (x3:Option Addr × Nat × Nat) (x10:Int) (σ:Aa):Bw k (n+1) p0 i1 x3 x10 σ=Fh k n (Bw k) (BI k) (Dk k) p0 i1 x3 x10 σ:=by
 simp only[Bw,BI,Dk,Ab]; kernel_rfl
theorem Kr (k:Nat) (x0:Option Addr) (σ:Aa):Bq (k+1) x0 σ=Ip k (Bw k) (AF k) x0 σ:=by
 simp only[Bq,Bw,AF,Ab]; kernel_rfl
theorem NY (k:Nat) (x1:Option Addr) (x2:Int) (σ:Aa):Dx (k+1) x1 x2 σ=Mp k (AO k) (AR k) (Bk k) x1 x2 σ:=by
 simp only[AO,AR,Dx,Bk,Ab]; kernel_rfl
theorem EV (k:Nat) (x0:Option Addr × Nat × Nat) (x1:Value) (σ:Aa):Bk (k+1) x0 x1 σ=Eo k (Cm k) x0 x1 σ:=by
 simp only[Bk,Cm,Ab]; kernel_rfl
theorem LP (k:Nat) (x0_0:Int) (x0_1:Int) (x1_0:Int) (x1_1:Int) (σ:Aa):CW (k+1) x0_0 x0_1 x1_0 x1_1 σ=JY k  x0_0 x0_1 x1_0 x1_1 σ:=by
 simp only[CW,Ab]; kernel_rfl
theorem EC (k n:Nat) (p0:Option Addr) (c1:Nat) (c2:Nat) (i3:Int) (v4:Value) (x7:Int) (x8:Int) (σ:Aa):AV k (n+1) p0 c1 c2 i3 v4 x7 x8 σ=DC k n (AA k) (AV k) p0 c1 c2 i3 v4 x7 x8 σ:=by
 simp only[AA,AV,Ab]; kernel_rfl
theorem GK (k n:Nat) (p0:Option Addr) (c1:Nat) (c2:Nat) (i3:Int) (v4:Value) (i5:Int) (x7:Int) (x8:Int) (σ:Aa):Bo k (n+1) p0 c1 c2 i3 v4 i5 x7 x8 σ=Fj k n (Bo k) (Ay k) p0 c1 c2 i3 v4 i5 x7 x8 σ:=by
 simp only[Bo,Ay,Ab]; kernel_rfl
theorem ED (k n:Nat) (p0:Option Addr) (c1:Nat) (c2:Nat) (i3:Int) (v4:Value) (x6:Int) (σ:Aa):AW k (n+1) p0 c1 c2 i3 v4 x6 σ=DD k n (AW k) (Bo k) (Ay k) p0 c1 c2 i3 v4 x6 σ:=by
 simp only[AW,Bo,Ay,Ab]; kernel_rfl
theorem Fk (k:Nat) (x0:Option Addr × Nat × Nat) (x1:Int) (x2:Value) (σ:Aa):Cm (k+1) x0 x1 x2 σ=Ey k (AA k) (AV k) (AW k) x0 x1 x2 σ:=by
 simp only[AA,Cm,AV,AW,Ab]; kernel_rfl
theorem Dm (k n:Nat) (p0:Option Addr) (c1:Nat) (c2:Nat) (i3:Int) (v4:Value) (x9:Int) (σ:Aa):AK k (n+1) p0 c1 c2 i3 v4 x9 σ=C0 k n (Df k) (AK k) p0 c1 c2 i3 v4 x9 σ:=by
 simp only[Df,AK,Ab]; kernel_rfl
theorem Dl (k n:Nat) (p0:Option Addr) (c1:Nat) (c2:Nat) (i3:Int) (i4:Int) (v5:Value) (x8:Int) (σ:Aa):AJ k (n+1) p0 c1 c2 i3 i4 v5 x8 σ=Cz k n (AJ k) (AK k) p0 c1 c2 i3 i4 v5 x8 σ:=by
 simp only[AJ,AK,Ab]; kernel_rfl
theorem DV (k:Nat) (x0:Option Addr × Nat × Nat) (x1:Int) (x2:Int) (x3:Value) (σ:Aa):AA (k+1) x0 x1 x2 x3 σ=CR k (AJ k) x0 x1 x2 x3 σ:=by
 simp only[AA,AJ,Ab]; kernel_rfl
theorem KT (k n:Nat) (p0:Option Addr) (c1:Nat) (c2:Nat) (i3:Int) (v4:Value) (x10:Int) (x11:Int) (σ:Aa):B6 k (n+1) p0 c1 c2 i3 v4 x10 x11 σ=GS k n (Df k) (B6 k) p0 c1 c2 i3 v4 x10 x11 σ:=by
 simp only[Df,B6,Ab]; kernel_rfl
theorem Gx (k n:Nat) (p0:Option Addr) (c1:Nat) (c2:Nat) (i3:Int) (x13:Int) (σ:Aa):B7 k (n+1) p0 c1 c2 i3 x13 σ=EK k n (B7 k) p0 c1 c2 i3 x13 σ:=by
 simp only[B7,Ab]; kernel_rfl
theorem KU (k n:Nat) (p0:Option Addr) (c1:Nat) (c2:Nat) (i3:Int) (v4:Value) (x14:Int) (x15:Int) (σ:Aa):B8 k (n+1) p0 c1 c2 i3 v4 x14 x15 σ=GU k n (Df k) (B8 k) p0 c1 c2 i3 v4 x14 x15 σ:=by
 simp only[Df,B8,Ab]; kernel_rfl
theorem Gy (k n:Nat) (p0:Option Addr) (c1:Nat) (c2:Nat) (i3:Int) (x17:Int) (σ:Aa):B9 k (n+1) p0 c1 c2 i3 x17 σ=EL k n (B9 k) p0 c1 c2 i3 x17 σ:=by
 simp only[B9,Ab]; kernel_rfl
theorem KV (k n:Nat) (p0:Option Addr) (c1:Nat) (c2:Nat) (v3:Value) (i4:Int) (x20:Int) (x21:Int) (σ:Aa):BA k (n+1) p0 c1 c2 v3 i4 x20 x21 σ=GV k n (Df k) (BA k) p0 c1 c2 v3 i4 x20 x21 σ:=by
 simp only[Df,BA,Ab]; kernel_rfl
theorem Ma (k:Nat) (x0:Option Addr × Nat × Nat) (x1:Int) (x2:Int) (x3:Int) (x4:Value) (σ:Aa):Ay (k+1) x0 x1 x2 x3 x4 σ=HL k (Cl k) (Ay k) (B6 k) (B7 k) (B8 k) (B9 k) (BA k) x0 x1 x2 x3 x4 σ:=by
 simp only[Cl,Ay,B6,B7,B8,B9,BA,Ab]; kernel_rfl
theorem LD (k n:Nat) (p0:Option Addr) (c1:Nat) (c2:Nat) (i3:Int) (v4:Value) (x10:Int) (x11:Int) (σ:Aa):BP k (n+1) p0 c1 c2 i3 v4 x10 x11 σ=Hw k n (BP k) (Bx k) p0 c1 c2 i3 v4 x10 x11 σ:=by
 simp only[BP,Bx,Ab]; kernel_rfl
theorem Nk (k:Nat) (x0:Option Addr × Nat × Nat) (x1:Int) (x2:Int) (x3:Int) (x4:Value) (σ:Aa):Cl (k+1) x0 x1 x2 x3 x4 σ=IY k (BP k) (Bx k) x0 x1 x2 x3 x4 σ:=by
 simp only[Cl,BP,Bx,Ab]; kernel_rfl
theorem Gm (k n:Nat) (p0:Option Addr) (c1:Nat) (c2:Nat) (i3:Int) (i4:Int) (i5:Int) (x10:Int) (σ:Aa):B5 k (n+1) p0 c1 c2 i3 i4 i5 x10 σ=EA k n (B5 k) p0 c1 c2 i3 i4 i5 x10 σ:=by
 simp only[B5,Ab]; kernel_rfl
theorem LF (k:Nat) (x0:Option Addr × Nat × Nat) (x1:Int) (x2:Int) (x3:Int) (x4:Value) (σ:Aa):Bx (k+1) x0 x1 x2 x3 x4 σ=Hx k (B5 k) x0 x1 x2 x3 x4 σ:=by
 simp only[Bx,B5,Ab]; kernel_rfl
theorem Oa (k:Nat) (x1:Option Addr) (x2:Int) (σ:Aa):Dz (k+1) x1 x2 σ=Mr k (AO k) (AR k) x1 x2 σ:=by
 simp only[AO,AR,Dz,Ab]; kernel_rfl
theorem NZ (k:Nat) (x1:Option Addr) (x2:Int) (σ:Aa):Dy (k+1) x1 x2 σ=Mq k (Bz k) x1 x2 σ:=by
 simp only[Bz,Dy,Ab]; kernel_rfl
theorem Ks (k:Nat) (x0:Option Addr) (x1:Option Addr) (x2:Int) (σ:Aa):Bz (k+1) x0 x1 x2 σ=Iq k (Bu k) (DJ k) (Dj k) x0 x1 x2 σ:=by
 simp only[Bu,Bz,DJ,Dj,Ab]; kernel_rfl
theorem PJ (k:Nat) (x0:Option Addr) (x1:Int) (σ:Aa):DJ (k+1) x0 x1 σ=Ot k  x0 x1 σ:=by
 simp only[DJ,Ab]; kernel_rfl
theorem Pe (k:Nat) (x0:Option Addr) (x1:Int) (σ:Aa):Dj (k+1) x0 x1 σ=Np k  x0 x1 σ:=by
 simp only[Dj,Ab]; kernel_rfl
theorem N7 (k:Nat) (x1:Option Addr) (x2:Int) (σ:Aa):CZ (k+1) x1 x2 σ=L7 k (Bz k) (CG k) (DJ k) (Dj k) x1 x2 σ:=by
 simp only[Bz,CG,DJ,Dj,CZ,Ab]; kernel_rfl
theorem GD (k n:Nat) (p0:Option Addr) (c1:Nat) (c2:Nat) (x8:Int) (σ:Aa):Cd k (n+1) p0 c1 c2 x8 σ=FF k n (Cd k) p0 c1 c2 x8 σ:=by
 simp only[Cd,Ab]; kernel_rfl
theorem JN (k n:Nat) (p0:Option Addr) (h1:Nat) (i2:Int) (p3:Option Addr) (c4:Nat) (c5:Nat) (x7:Int) (σ:Aa):Cc k (n+1) p0 h1 i2 p3 c4 c5 x7 σ=Hz k n (Cc k) (Cd k) p0 h1 i2 p3 c4 c5 x7 σ:=by
 simp only[Cc,Cd,Ab]; kernel_rfl
theorem GC (k n:Nat) (p0:Option Addr) (h1:Nat) (p2:Option Addr) (c3:Nat) (c4:Nat) (i5:Int) (x13:Int) (σ:Aa):BF k (n+1) p0 h1 p2 c3 c4 i5 x13 σ=FE k n (BF k) (Cc k) (DZ k) p0 h1 p2 c3 c4 i5 x13 σ:=by
 simp only[BF,Cc,DZ,Ab]; kernel_rfl
theorem Lt (k:Nat) (x0:Option Addr) (σ:Aa):CG (k+1) x0 σ=J0 k (Bu k) (Bq k) (BF k) x0 σ:=by
 simp only[Bu,Bq,CG,BF,Ab]; kernel_rfl
theorem Wl (k:Nat) (x0:Option Nat) (σ:Aa):Jd (k+1) x0 σ=YJ [.map x0] σ:=by
 simp only[Jd,Ab]; kernel_rfl
theorem V0 (k:Nat) (x0:Int) (x1:Int) (x2:Int) (x3:Option Addr × Nat × Nat) (x4:Option Addr × Nat × Nat) (σ:Aa):fn P (XK Kn.b) H k 8 [.int .i64 x0,.int .i64 x1,.int .i64 x2,.slice x3.1 x3.2.1 x3.2.2,.slice x4.1 x4.2.1 x4.2.2] σ=ID k x0 x1 x2 x3 x4 σ:=by
 simp only[ID,Ab]
theorem Nj (k:Nat) (x0:Option Addr) (x1:Int) (σ:Aa):Ck k (.func (.func 99) #[] #[]) [.pointer x0,.int .i64 x1] σ=BU k x0 x1 σ:=by
 simp only[Ck,BU,Ab]; kernel_rfl
theorem Pd (k:Nat) (x0_0:Int) (x0_1:Int) (σ:Aa):HN k (.func (.func 166) #[] #[]) [.agg #[.int .i64 x0_0,.int .i64 x0_1]] σ=CH k x0_0 x0_1 σ:=by
 simp only[HN,CH,Ab]; kernel_rfl
theorem Pc (k:Nat) (x0:Int) (c0:Option Addr) (σ:Aa):MV k (.func (.func 179) #[] #[.pointer c0]) [.int .i64 x0] σ=C1 k x0 c0 σ:=by
 simp only[MV,C1,Ab]; kernel_rfl
theorem N5 (k:Nat) (x0_0:Int) (x0_1:Int) (x1_0:Int) (x1_1:Int) (σ:Aa):Df k (.func (.func 206) #[] #[]) [.agg #[.int .i64 x0_0,.int .i64 x0_1],.agg #[.int .i64 x1_0,.int .i64 x1_1]] σ=CW k x0_0 x0_1 x1_0 x1_1 σ:=by
 simp only[Df,CW,Ab]; kernel_rfl
end
theorem YM [AN] (k:Nat) (σ:Aa):@Fp _ ⟨true⟩ (k+1) σ=some (.bool true,σ):=by
 simp only[Fp,Ab]; kernel_rfl
theorem bI (a:Addr):SO P JG (.pointer (some a)) (.pointer none)=some false∧SO P JG (.pointer none) (.pointer none)=some true∧SO P Kk (.pointer (some a)) (.pointer none)=some false∧SO P Kk (.pointer none) (.pointer none)=some true∧SO P Gf (.pointer (some a)) (.pointer none)=some false∧SO P Gf (.pointer none) (.pointer none)=some true∧SO P F1 (.pointer (some a)) (.pointer none)=some false∧SO P F1 (.pointer none) (.pointer none)=some true∧SO P Mf (.pointer (some a)) (.pointer none)=some false∧SO P Mf (.pointer none) (.pointer none)=some true:=by
 refine ⟨?_, ?_, ?_, ?_, ?_, ?_, ?_, ?_, ?_, ?_⟩ <;> kernel_rfl
abbrev Vo:FuncId:=8
abbrev Mb:FuncId:=99
abbrev Oi:FuncId:=166
abbrev NI:FuncId:=206
section
local instance u7:Kn:=⟨false⟩
variable [AN]
theorem Vg (k:Nat)  (σ:Aa):Fp (k+1)  σ=Ww k (AL k) (GW k) (Co k) (DL k) (Cp k) (GG k)  σ:=by
 simp only[AL,GW,Co,DL,Cp,GG,Fp,Ab]; kernel_rfl
end
end Go.Proofs.YtlaplcglpnlieaaGreat
