/-
 PRINTED BY A PROGRAM OF THIS SESSION'S OWN (gen2.py): the unfolding equations.
-/
import Derived.Test.YtlaplcglpnlieaaGreatP9
set_option maxRecDepth 100000
set_option linter.unusedVariables false
set_option linter.unusedSimpArgs false
set_option linter.unusedSectionVars false
namespace Go.Proofs.YtlaplcglpnlieaaGreat
open Go Go.AX
section
variable [AF] [Kn]
theorem MB (k n:Nat) (p0:Option Addr) (x15:Int) (x16:Int) (x17:Int) (σ:Aa):En k (n+1) p0 x15 x16 x17 σ=Kp k n (Az k) (BX k) (En k) p0 x15 x16 x17 σ:=by
 simp only[Az,BX,En,Ab]; kernel_rfl
theorem MC (k n:Nat) (p0:Option Addr) (c1:Nat) (c2:Nat) (i3:Int) (x18:Bool) (x19:Int) (σ:Aa):EZ k (n+1) p0 c1 c2 i3 x18 x19 σ=Kq k n (EZ k) p0 c1 c2 i3 x18 x19 σ:=by
 simp only[EZ,Ab]; kernel_rfl
theorem U2 (k:Nat) (x0:Int) (x1:Int) (x2:Int) (x3:Option Addr × Nat × Nat) (x4_0:Int) (x4_1:Int) (x4_2:Int) (σ:Aa):JY (k+1) x0 x1 x2 x3 x4_0 x4_1 x4_2 σ=QZ k (AN k) (DH k) (Ea k) (Ez k) (En k) (EZ k) (Fo k) (KO k) (KP k) x0 x1 x2 x3 x4_0 x4_1 x4_2 σ:=by
 simp only[AN,DH,Ea,Ez,JY,En,EZ,Fo,KO,KP,Ab]; kernel_rfl
theorem R5 (k:Nat) (x0:Int) (σ:Aa):G8 (k+1) x0 σ=SP k (Mf k) x0 σ:=by
 simp only[G8,Mf,Ab]; kernel_rfl
theorem aD (k:Nat) (x0:Int) (σ:Aa):K9 (k+1) x0 σ=YP k  x0 σ:=by
 simp only[K9,Ab]; kernel_rfl
theorem Qn (k n:Nat) (p0:Option Addr) (c1:Nat) (c2:Nat) (p3:Option Addr) (p4:Option Addr) (p5:Option Addr) (p6:Option Addr) (x18:Int) (σ:Aa):G9 k (n+1) p0 c1 c2 p3 p4 p5 p6 x18 σ=Pk k n (G9 k) (Nr k) p0 c1 c2 p3 p4 p5 p6 x18 σ:=by
 simp only[G9,Nr,Ab]; kernel_rfl
theorem Z0 (k:Nat) (x0:Int) (x1:Int) (x2:Int) (x3:Option Addr × Nat × Nat) (σ:Aa):KP (k+1) x0 x1 x2 x3 σ=Xb k (GP k) (G8 k) (ON k) (L5 k) (G9 k) (K9 k) (KA k) x0 x1 x2 x3 σ:=by
 simp only[GP,G8,ON,L5,KP,G9,K9,KA,Ab]; kernel_rfl
theorem TG (k:Nat) (x0_0:Int) (x0_1:Int) (x0_2:Int) (σ:Aa):Ez (k+1) x0_0 x0_1 x0_2 σ=SR k (Ea k) x0_0 x0_1 x0_2 σ:=by
 simp only[Ea,Ez,Ab]; kernel_rfl
theorem Me (k n:Nat) (p0:Option Addr) (i1:Int) (x5:Option Addr × Nat × Nat) (x6:Int) (σ:Aa):Hz k (n+1) p0 i1 x5 x6 σ=LO k n (Az k) (DK k) (B7 k) (BX k) (Hz k) p0 i1 x5 x6 σ:=by
 simp only[Az,DK,B7,BX,Hz,Ab]; kernel_rfl
theorem Zz (k:Nat) (x0:Option Addr) (x1:Int) (σ:Aa):KO (k+1) x0 x1 σ=Xa k (Hz k) x0 x1 σ:=by
 simp only[KO,Hz,Ab]; kernel_rfl
theorem Kx (k:Nat) (x0:Option Addr) (x1_0:Int) (x1_1:Int) (x1_2:Int) (σ:Aa):AN (k+1) x0 x1_0 x1_1 x1_2 σ=I6 k (B6 k) (DJ k) (Cl k) (Cq k) (B7 k) (Ea k) (Ez k) x0 x1_0 x1_1 x1_2 σ:=by
 simp only[AN,B6,DJ,Cl,Cq,B7,Ea,Ez,Ab]; kernel_rfl
theorem NH (k:Nat) (x0:Option Addr) (σ:Aa):Az (k+1) x0 σ=LY k (AJ k) x0 σ:=by
 simp only[Az,AJ,Ab]; kernel_rfl
theorem OK (k:Nat) (x0:Option Addr) (x1:Int) (σ:Aa):BX (k+1) x0 x1 σ=MY k (Az k) x0 x1 σ:=by
 simp only[Az,BX,Ab]; kernel_rfl
theorem TF (k:Nat) (x0_0:Int) (x0_1:Int) (x0_2:Int) (σ:Aa):Ea (k+1) x0_0 x0_1 x0_2 σ=SQ k  x0_0 x0_1 x0_2 σ:=by
 simp only[Ea,Ab]; kernel_rfl
theorem PH (k:Nat) (x0:Option Addr) (σ:Aa):DH (k+1) x0 σ=Ly k (B6 k) x0 σ:=by
 simp only[DH,B6,Ab]; kernel_rfl
theorem K7 (k:Nat) (x0:Option Addr) (x1:Int) (σ:Aa):B7 (k+1) x0 x1 σ=JV k (Az k) x0 x1 σ:=by
 simp only[Az,B7,Ab]; kernel_rfl
theorem IF (k n:Nat) (h0:Nat) (c1:Nat) (i2:Int) (x10:Int) (σ:Aa):Dl k (n+1) h0 c1 i2 x10 σ=HB k n (Dl k) h0 c1 i2 x10 σ:=by
 simp only[Dl,Ab]; kernel_rfl
theorem IE (k n:Nat) (p0:Option Addr) (h1:Nat) (c2:Nat) (p3:Option Addr) (c4:Nat) (c5:Nat) (i6:Int) (x20:Int) (σ:Aa):Dk k (n+1) p0 h1 c2 p3 c4 c5 i6 x20 σ=HA k n (Dk k) (Dl k) (BZ k) p0 h1 c2 p3 c4 c5 i6 x20 σ:=by
 simp only[Dk,Dl,BZ,Ab]; kernel_rfl
theorem HG (k:Nat) (x0:Option Addr) (x1:Int) (σ:Aa):DY (k+1) x0 x1 σ=H9 k (Dk k) (Ck k) (Ca k) x0 x1 σ:=by
 simp only[DY,Dk,Ck,Ca,Ab]; kernel_rfl
theorem Yj (k:Nat) (x0:Option Addr × Nat × Nat) (σ:Aa):L5 (k+1) x0 σ=VL k  x0 σ:=by
 simp only[L5,Ab]; kernel_rfl
theorem aB (k:Nat) (x0:Int) (σ:Aa):ON (k+1) x0 σ=YN k  x0 σ:=by
 simp only[ON,Ab]; kernel_rfl
theorem U0 (k:Nat) (x0:Option Addr) (x1:Int) (x2:Int) (σ:Aa):GP (k+1) x0 x1 x2 σ=Uy k (DJ k) (Az k) x0 x1 x2 σ:=by
 simp only[GP,DJ,Az,Ab]; kernel_rfl
theorem aE (k:Nat) (x0:Option Addr) (x1:Int) (x2:Int) (σ:Aa):KA (k+1) x0 x1 x2 σ=YQ k (An k) x0 x1 x2 σ:=by
 simp only[An,KA,Ab]; kernel_rfl
theorem Z1 (k:Nat) (x0:Option Addr) (x1:Option Addr) (x2:Option Addr) (x3:Option Addr) (x4_0:Int) (x4_1:Int) (x4_2:Int) (x4_3:Int) (x4_4:Int) (x4_5:Int) (σ:Aa):Nr (k+1) x0 x1 x2 x3 x4_0 x4_1 x4_2 x4_3 x4_4 x4_5 σ=Xc k (AN k) (EX k) (Cp k) (DL k) (Cq k) (F8 k) (Gx k) (OO k) (CO k) (Fu k) (Dz k) (Ep k) (ER k) (Ej k) (Fb k) x0 x1 x2 x3 x4_0 x4_1 x4_2 x4_3 x4_4 x4_5 σ:=by
 simp only[AN,EX,Cp,DL,Cq,F8,Gx,OO,Nr,CO,Fu,Dz,Ep,ER,Ej,Fb,Ab]; kernel_rfl
theorem OI (k:Nat) (x0:Option Addr) (x1:Int) (x2:Int) (σ:Aa):Cp (k+1) x0 x1 x2 σ=MW k (DZ k) x0 x1 x2 σ:=by
 simp only[Cp,DZ,Ab]; kernel_rfl
theorem OJ (k:Nat) (x0:Option Addr) (x1:Int) (x2_0:Int) (x2_1:Int) (x2_2:Int) (σ:Aa):Cq (k+1) x0 x1 x2_0 x2_1 x2_2 σ=MX k (FT k) (AJ k) (Ea k) (Ez k) (Ic k) (CB k) x0 x1 x2_0 x2_1 x2_2 σ:=by
 simp only[Cq,FT,AJ,Ea,Ez,Ic,CB,Ab]; kernel_rfl
theorem Jl (k n:Nat) (p0:Option Addr) (h1:Nat) (h2:Nat) (p3:Option Addr) (c4:Nat) (c5:Nat) (i6:Int) (x21:Int) (σ:Aa):CX k (n+1) p0 h1 h2 p3 c4 c5 i6 x21 σ=Ir k n (C6 k) (CX k) (BZ k) p0 h1 h2 p3 c4 c5 i6 x21 σ:=by
 simp only[C6,CX,BZ,Ab]; kernel_rfl
theorem Iv (k:Nat) (x0:Option Addr) (x1:Int) (σ:Aa):DK (k+1) x0 x1 σ=IA k (C6 k) (CX k) (Ck k) (Ca k) x0 x1 σ:=by
 simp only[DK,C6,CX,Ck,Ca,Ab]; kernel_rfl
theorem Lc (k:Nat) (x0:Option Addr) (x1:Int) (x2:Int) (x3:Int) (σ:Aa):Dy (k+1) x0 x1 x2 x3 σ=Jh k (DZ k) x0 x1 x2 x3 σ:=by
 simp only[Dy,DZ,Ab]; kernel_rfl
theorem Px (k:Nat) (x0:Option Addr) (x1:Int) (σ:Aa):DL (k+1) x0 x1 σ=NX k (EP k) (BZ k) (FV k) (CB k) x0 x1 σ:=by
 simp only[DL,EP,BZ,FV,CB,Ab]; kernel_rfl
theorem Ld (k n:Nat) (p0:Option Addr) (i1:Int) (x6:Int) (σ:Aa):Ey k (n+1) p0 i1 x6 σ=Ji k n (Ey k) p0 i1 x6 σ:=by
 simp only[Ey,Ab]; kernel_rfl
theorem Ta (k:Nat) (x0:Option Addr) (x1:Int) (σ:Aa):F8 (k+1) x0 x1 σ=Ps k (Ck k) (Ey k) (FU k) (Db k) x0 x1 σ:=by
 simp only[Ck,F8,Ey,FU,Db,Ab]; kernel_rfl
theorem VT (k:Nat) (x0:Int) (x1:Int) (σ:Aa):Mf (k+1) x0 x1 σ=Wm k (EH k) x0 x1 σ:=by
 simp only[Mf,EH,Ab]; kernel_rfl
theorem Pz (k:Nat) (x0:Option Addr) (σ:Aa):AJ (k+1) x0 σ=NZ k  x0 σ:=by
 simp only[AJ,Ab]; kernel_rfl
theorem U7 (k:Nat) (x0:Option Addr) (σ:Aa):An (k+1) x0 σ=Rd k  x0 σ:=by
 simp only[An,Ab]; kernel_rfl
theorem TS (k:Nat) (x0:Option Addr) (x1:Int) (x2:Int) (σ:Aa):CO (k+1) x0 x1 x2 σ=PZ k (An k) (Cw k) (Gj k) x0 x1 x2 σ:=by
 simp only[CO,An,Cw,Gj,Ab]; kernel_rfl
theorem Ja (k n:Nat) (p0:Option Addr) (i1:Int) (i2:Int) (x9:Int) (σ:Aa):Ct k (n+1) p0 i1 i2 x9 σ=Ha k n (Ct k) p0 i1 i2 x9 σ:=by
 simp only[Ct,Ab]; kernel_rfl
theorem Jb (k n:Nat) (p0:Option Addr) (i1:Int) (i2:Int) (i3:Int) (x10:Int) (σ:Aa):Cu k (n+1) p0 i1 i2 i3 x10 σ=Hb k n (Cu k) p0 i1 i2 i3 x10 σ:=by
 simp only[Cu,Ab]; kernel_rfl
theorem Qo (k:Nat) (x0:Option Addr) (x1:Int) (x2:Int) (x3:Int) (σ:Aa):Eh (k+1) x0 x1 x2 x3 σ=Mz k (Ct k) (Cu k) (An k) (Cw k) (Gj k) x0 x1 x2 x3 σ:=by
 simp only[Eh,Ct,Cu,An,Cw,Gj,Ab]; kernel_rfl
theorem K8 (k n:Nat) (p0:Option Addr) (i1:Int) (i2:Int) (x6:Int) (σ:Aa):Dc k (n+1) p0 i1 i2 x6 σ=IB k n (Dc k) p0 i1 i2 x6 σ:=by
 simp only[Dc,Ab]; kernel_rfl
theorem Sm (k:Nat) (x0:Option Addr) (x1:Int) (σ:Aa):Ep (k+1) x0 x1 σ=OD k (An k) (Eo k) (Dc k) (Ce k) (Cw k) x0 x1 σ:=by
 simp only[An,Eo,Ep,Dc,Ce,Cw,Ab]; kernel_rfl
theorem M9 (k n:Nat) (p0:Option Addr) (i1:Int) (i2:Int) (x8:Int) (σ:Aa):EY k (n+1) p0 i1 i2 x8 σ=Km k n (EY k) p0 i1 i2 x8 σ:=by
 simp only[EY,Ab]; kernel_rfl
theorem U1 (k:Nat) (x0:Option Addr) (x1:Int) (x2:Int) (σ:Aa):Gx (k+1) x0 x1 x2 σ=QY k (EY k) (FU k) (Db k) (GH k) x0 x1 x2 σ:=by
 simp only[Gx,EY,FU,Db,GH,Ab]; kernel_rfl
theorem L9 (k n:Nat) (p0:Option Addr) (i1:Int) (i2:Int) (i3:Int) (x8:Int) (σ:Aa):DS k (n+1) p0 i1 i2 i3 x8 σ=JI k n (DS k) p0 i1 i2 i3 x8 σ:=by
 simp only[DS,Ab]; kernel_rfl
theorem TX (k:Nat) (x0:Option Addr) (x1:Int) (x2:Int) (σ:Aa):ER (k+1) x0 x1 x2 σ=Qd k (An k) (DS k) (Ce k) (Cw k) (Gj k) x0 x1 x2 σ:=by
 simp only[An,ER,DS,Ce,Cw,Gj,Ab]; kernel_rfl
theorem TW (k:Nat) (x0:Option Addr) (x1:Int) (x2_0:Int) (x2_1:Int) (x2_2:Int) (σ:Aa):Dz (k+1) x0 x1 x2_0 x2_1 x2_2 σ=Qc k (An k) (HJ k) (GS k) (Gi k) x0 x1 x2_0 x2_1 x2_2 σ:=by
 simp only[An,Dz,HJ,GS,Gi,Ab]; kernel_rfl
theorem U6 (k:Nat) (x0:Option Addr) (x1:Int) (σ:Aa):Fu (k+1) x0 x1 σ=Rc k (Cv k) (II k) (FW k) x0 x1 σ:=by
 simp only[Cv,Fu,II,FW,Ab]; kernel_rfl
theorem Tb (k:Nat) (x0:Option Addr) (σ:Aa):Bs (k+1) x0 σ=Pt k (An k) x0 σ:=by
 simp only[Bs,An,Ab]; kernel_rfl
theorem Ns (k n:Nat) (p0:Option Addr) (x3:Option Addr × Nat × Nat) (x4:Int) (σ:Aa):F9 k (n+1) p0 x3 x4 σ=Lm k n (F9 k) (An k) p0 x3 x4 σ:=by
 simp only[F9,An,Ab]; kernel_rfl
theorem V9 (k:Nat) (x0:Option Addr) (σ:Aa):IH (k+1) x0 σ=Sa k (F9 k) x0 σ:=by
 simp only[IH,F9,Ab]; kernel_rfl
theorem TZ (k:Nat) (x0:Option Addr) (x1:Int) (σ:Aa):Bk (k+1) x0 x1 σ=Qf k (An k) x0 x1 σ:=by
 simp only[An,Bk,Ab]; kernel_rfl
theorem TY (k:Nat) (x0:Option Addr) (x1:Int) (σ:Aa):Cd (k+1) x0 x1 σ=Qe k (An k) x0 x1 σ:=by
 simp only[An,Cd,Ab]; kernel_rfl
theorem Np (k:Nat) (x0:Option Addr) (x1:Int) (σ:Aa):Ck (k+1) x0 x1 σ=Lk k (EA k) (AJ k) x0 x1 σ:=by
 simp only[Ck,EA,AJ,Ab]; kernel_rfl
theorem Hf (k n:Nat) (p0:Option Addr) (i1:Int) (x5:Option Addr × Nat × Nat) (x6:Int) (σ:Aa):Ei k (n+1) p0 i1 x5 x6 σ=Gw k n (An k) (Ei k) p0 i1 x5 x6 σ:=by
 simp only[An,Ei,Ab]; kernel_rfl
theorem Sl (k:Nat) (x0:Option Addr) (x1:Int) (σ:Aa):Eo (k+1) x0 x1 σ=OC k (Ei k) x0 x1 σ:=by
 simp only[Eo,Ei,Ab]; kernel_rfl
theorem ME (k n:Nat) (p0:Option Addr) (p1:Option Addr) (c2:Nat) (c3:Nat) (x5:Option Addr × Nat × Nat) (x6:Int) (x8:Int) (σ:Aa):Dn k (n+1) p0 p1 c2 c3 x5 x6 x8 σ=Ks k n (Dn k) (Cv k) (BP k) p0 p1 c2 c3 x5 x6 x8 σ:=by
 simp only[Dn,Cv,BP,Ab]; kernel_rfl
theorem U5 (k:Nat) (x0:Option Addr) (x1:Int) (σ:Aa):HI (k+1) x0 x1 σ=Rb k (Dn k) (Eo k) (Bk k) x0 x1 σ:=by
 simp only[HI,Dn,Eo,Bk,Ab]; kernel_rfl
theorem L8 (k n:Nat) (p0:Option Addr) (i1:Int) (i2:Int) (x7:Bool) (x8:Int) (σ:Aa):DR k (n+1) p0 i1 i2 x7 x8 σ=JH k n (HH k) (DR k) p0 i1 i2 x7 x8 σ:=by
 simp only[HH,DR,Ab]; kernel_rfl
theorem L7 (k n:Nat) (p0:Option Addr) (i1:Int) (x5:Option Addr × Nat × Nat) (x6:Int) (σ:Aa):DQ k (n+1) p0 i1 x5 x6 σ=JG k n (DQ k) (DR k) p0 i1 x5 x6 σ:=by
 simp only[DQ,DR,Ab]; kernel_rfl
theorem TU (k:Nat) (x0:Option Addr) (x1:Int) (σ:Aa):He (k+1) x0 x1 σ=Qb k (DQ k) (Bk k) x0 x1 σ:=by
 simp only[He,DQ,Bk,Ab]; kernel_rfl
theorem Lb (k:Nat) (x0:Option Addr) (σ:Aa):B6 (k+1) x0 σ=Jg k  x0 σ:=by
 simp only[B6,Ab]; kernel_rfl
theorem Pv (k:Nat)  (σ:Aa):DJ (k+1)  σ=NV k   σ:=by
 simp only[DJ,Ab]; kernel_rfl
theorem IZ (k n:Nat) (p0:Option Addr) (i1:Int) (x7:Int) (σ:Aa):BU k (n+1) p0 i1 x7 σ=GZ k n (BU k) (Az k) (Dy k) p0 i1 x7 σ:=by
 simp only[BU,Az,Dy,Ab]; kernel_rfl
theorem Kz (k:Nat) (x0:Option Addr) (x1:Int) (σ:Aa):BW (k+1) x0 x1 σ=I8 k (BU k) x0 x1 σ:=by
 simp only[BW,BU,Ab]; kernel_rfl
theorem NI (k:Nat) (x0:Option Addr) (x1:Int) (σ:Aa):EP (k+1) x0 x1 σ=LZ k (G7 k) (AJ k) x0 x1 σ:=by
 simp only[G7,AJ,EP,Ab]; kernel_rfl
theorem TH (k:Nat) (x0:Int) (σ:Aa):Jo (k+1) x0 σ=SS k  x0 σ:=by
 simp only[Jo,Ab]; kernel_rfl
theorem Lo (k:Nat) (x0:Option Addr) (x1:Int) (σ:Aa):Ca (k+1) x0 x1 σ=KM k (CH k) x0 x1 σ:=by
 simp only[CH,Ca,Ab]; kernel_rfl
theorem P0 (k:Nat) (x0:Option Addr) (x1:Int) (σ:Aa):BZ (k+1) x0 x1 σ=Oa k (Ez k) (Jo k) x0 x1 σ:=by
 simp only[BZ,Ez,Jo,Ab]; kernel_rfl
theorem QL (k:Nat) (x0:Option Addr) (σ:Aa):CI (k+1) x0 σ=Nb k (An k) x0 σ:=by
 simp only[An,CI,Ab]; kernel_rfl
theorem Qp (k:Nat) (x0:Option Addr) (x1_0:Int) (x1_1:Int) (x1_2:Int) (σ:Aa):Ej (k+1) x0 x1_0 x1_1 x1_2 σ=M0 k (Eh k) (EL k) (HK k) (Gi k) (BP k) (CI k) (D0 k) (DM k) (Fc k) (Aw k) (E3 k) x0 x1_0 x1_1 x1_2 σ:=by
 simp only[Eh,EL,HK,Gi,BP,Ej,CI,D0,DM,Fc,Aw,E3,Ab]; kernel_rfl
theorem aC (k:Nat) (x0:Option Addr) (x1:Int) (σ:Aa):OO (k+1) x0 x1 σ=YO k (IH k) x0 x1 σ:=by
 simp only[OO,IH,Ab]; kernel_rfl
theorem Ql (k:Nat) (x0:Option Addr) (σ:Aa):EX (k+1) x0 σ=My k (B6 k) x0 σ:=by
 simp only[EX,B6,Ab]; kernel_rfl
theorem Qq (k:Nat) (x0:Option Addr) (σ:Aa):Fb (k+1) x0 σ=M4 k (CI k) x0 σ:=by
 simp only[CI,Fb,Ab]; kernel_rfl
theorem IG (k n:Nat) (p0:Option Addr) (i1:Int) (h2:Nat) (i3:Int) (x54:Int) (σ:Aa):Dm k (n+1) p0 i1 h2 i3 x54 σ=HC k n (Dm k) p0 i1 h2 i3 x54 σ:=by
 simp only[Dm,Ab]; kernel_rfl
theorem OL (k:Nat) (x0:Option Addr) (x1:Int) (x2:Int) (x3_0:Int) (x3_1:Int) (x4_0:Int) (x4_1:Int) (σ:Aa):DZ (k+1) x0 x1 x2 x3_0 x3_1 x4_0 x4_1 σ=MZ k (Dm k) (AJ k) (CH k) (GH k) (Cc k) x0 x1 x2 x3_0 x3_1 x4_0 x4_1 σ:=by
 simp only[DZ,Dm,AJ,CH,GH,Cc,Ab]; kernel_rfl
theorem Jm (k n:Nat) (p0:Option Addr) (i1:Int) (i2:Int) (i3:Int) (x10:Int) (σ:Aa):CY k (n+1) p0 i1 i2 i3 x10 σ=Is k n (FR k) (CY k) p0 i1 i2 i3 x10 σ:=by
 simp only[FR,CY,Ab]; kernel_rfl
theorem Py (k:Nat) (x0:Option Addr) (x1:Int) (x2:Int) (x3:Int) (σ:Aa):FT (k+1) x0 x1 x2 x3 σ=NY k (CY k) (Db k) x0 x1 x2 x3 σ:=by
 simp only[FT,CY,Db,Ab]; kernel_rfl
theorem Sk (k:Nat) (x0_0:Int) (x0_1:Int) (x0_2:Int) (σ:Aa):Ic (k+1) x0_0 x0_1 x0_2 σ=Rz k  x0_0 x0_1 x0_2 σ:=by
 simp only[Ic,Ab]; kernel_rfl
theorem P5 (k:Nat) (x0:Option Addr) (x1:Int) (x2:Int) (σ:Aa):CB (k+1) x0 x1 x2 σ=Of k (ES k) (FY k) x0 x1 x2 σ:=by
 simp only[CB,ES,FY,Ab]; kernel_rfl
theorem Jk (k:Nat) (x0:Int) (c0:Option Addr) (c1:Option Addr) (σ:Aa):C6 (k+1) x0 c0 c1 σ=Iq k  x0 c0 c1 σ:=by
 simp only[C6,Ab]; kernel_rfl
theorem P4 (k:Nat) (x0:Option Addr) (x1:Int) (σ:Aa):FX (k+1) x0 x1 σ=Oe k (Dd k) (D1 k) x0 x1 σ:=by
 simp only[FX,Dd,D1,Ab]; kernel_rfl
theorem P2 (k:Nat) (x0:Option Addr) (x1:Int) (x2:Int) (σ:Aa):FV (k+1) x0 x1 x2 σ=Oc k  x0 x1 x2 σ:=by
 simp only[FV,Ab]; kernel_rfl
theorem V8 (k:Nat) (x0:Option Addr) (x1:Int) (x2:Bool) (σ:Aa):FU (k+1) x0 x1 x2 σ=RZ k (AJ k) (CH k) x0 x1 x2 σ:=by
 simp only[FU,AJ,CH,Ab]; kernel_rfl
theorem Jn (k n:Nat) (p0:Option Addr) (i1:Int) (x5:Int) (σ:Aa):DO k (n+1) p0 i1 x5 σ=It k n (DO k) p0 i1 x5 σ:=by
 simp only[DO,Ab]; kernel_rfl
theorem P1 (k:Nat) (x0:Option Addr) (x1:Int) (σ:Aa):Db (k+1) x0 x1 σ=Ob k (DO k) x0 x1 σ:=by
 simp only[Db,DO,Ab]; kernel_rfl
theorem LC (k:Nat) (x0:Option Addr × Nat × Nat) (x1:Int) (σ:Aa):EH (k+1) x0 x1 σ=JL k (Ga k) x0 x1 σ:=by
 simp only[EH,Ga,Ab]; kernel_rfl
theorem OR (k:Nat) (x0:Option Addr) (σ:Aa):Cb (k+1) x0 σ=Ni k  x0 σ:=by
 simp only[Cb,Ab]; kernel_rfl
theorem Ub (k:Nat) (x0:Option Addr) (x1:Int) (σ:Aa):Cw (k+1) x0 x1 σ=Qh k  x0 x1 σ:=by
 simp only[Cw,Ab]; kernel_rfl
theorem Yn (k:Nat) (x0:Int) (σ:Aa):Gj (k+1) x0 σ=VP k  x0 σ:=by
 simp only[Gj,Ab]; kernel_rfl
theorem LA (k n:Nat) (p0:Option Addr) (i1:Int) (x5:Int) (σ:Aa):DT k (n+1) p0 i1 x5 σ=JJ k n (DT k) p0 i1 x5 σ:=by
 simp only[DT,Ab]; kernel_rfl
theorem Ua (k:Nat) (x0:Option Addr) (x1:Int) (σ:Aa):Ce (k+1) x0 x1 σ=Qg k (DT k) x0 x1 σ:=by
 simp only[Ce,DT,Ab]; kernel_rfl
theorem TI (k:Nat) (x0:Int) (σ:Aa):GH (k+1) x0 σ=SU k  x0 σ:=by
 simp only[GH,Ab]; kernel_rfl
theorem Yl (k:Nat) (x0_0:Int) (x0_1:Int) (x0_2:Int) (σ:Aa):Gi (k+1) x0_0 x0_1 x0_2 σ=VN k  x0_0 x0_1 x0_2 σ:=by
 simp only[Gi,Ab]; kernel_rfl
theorem MF (k n:Nat) (p0:Option Addr) (i1:Int) (i2:Int) (h3:Nat) (x10:Int) (σ:Aa):Dp k (n+1) p0 i1 i2 h3 x10 σ=Kt k n (Dp k) (BP k) p0 i1 i2 h3 x10 σ:=by
 simp only[Dp,BP,Ab]; kernel_rfl
theorem U8 (k:Nat) (x0:Option Addr) (x1:Int) (x2_0:Int) (x2_1:Int) (x2_2:Int) (x3:Int) (σ:Aa):HJ (k+1) x0 x1 x2_0 x2_1 x2_2 x3 σ=Re k (Ce k) (Dp k) (EL k) (HK k) (BP k) x0 x1 x2_0 x2_1 x2_2 x3 σ:=by
 simp only[Ce,HJ,Dp,EL,HK,BP,Ab]; kernel_rfl
theorem Nt (k n:Nat) (p0:Option Addr) (h1:Nat) (x4:Int) (σ:Aa):EB k (n+1) p0 h1 x4 σ=Ln k n (EB k) p0 h1 x4 σ:=by
 simp only[EB,Ab]; kernel_rfl
theorem VB (k:Nat) (x0:Option Addr) (x1_0:Int) (x1_1:Int) (x1_2:Int) (x1_3:Int) (x1_4:Int) (x1_5:Option Addr × Nat × Nat) (x1_6:Option Addr × Nat × Nat) (x1_7:Bool) (σ:Aa):GS (k+1) x0 x1_0 x1_1 x1_2 x1_3 x1_4 x1_5 x1_6 x1_7 σ=Sc k (EB k) x0 x1_0 x1_1 x1_2 x1_3 x1_4 x1_5 x1_6 x1_7 σ:=by
 simp only[GS,EB,Ab]; kernel_rfl
theorem Uc (k:Nat) (x0:Option Addr) (x1:Int) (σ:Aa):FW (k+1) x0 x1 σ=Qi k (Cv k) (An k) x0 x1 σ:=by
 simp only[Cv,An,FW,Ab]; kernel_rfl
theorem VA (k:Nat) (x0:Option Addr) (x1:Int) (σ:Aa):II (k+1) x0 x1 σ=Sb k  x0 x1 σ:=by
 simp only[II,Ab]; kernel_rfl
theorem L6 (k n:Nat) (p0:Option Addr) (i1:Int) (x5:Int) (σ:Aa):EG k (n+1) p0 i1 x5 σ=JF k n (EG k) p0 i1 x5 σ:=by
 simp only[EG,Ab]; kernel_rfl
theorem TT (k:Nat) (x0:Option Addr) (x1:Int) (σ:Aa):Cv (k+1) x0 x1 σ=Qa k (EG k) (An k) x0 x1 σ:=by
 simp only[Cv,EG,An,Ab]; kernel_rfl
theorem Qm (k:Nat) (x0:Option Addr) (x1:Int) (σ:Aa):G7 (k+1) x0 x1 σ=Pj k (AJ k) (FX k) x0 x1 σ:=by
 simp only[G7,AJ,FX,Ab]; kernel_rfl
theorem Pw (k:Nat) (x0:Option Addr) (x1:Int) (σ:Aa):FR (k+1) x0 x1 σ=NW k (AJ k) (BZ k) (Fx k) x0 x1 σ:=by
 simp only[FR,AJ,BZ,Fx,Ab]; kernel_rfl
theorem MD (k n:Nat) (p0:Option Addr) (i1:Int) (x6:Int) (σ:Aa):Fa k (n+1) p0 i1 x6 σ=Kr k n (Fa k) (BP k) p0 i1 x6 σ:=by
 simp only[Fa,BP,Ab]; kernel_rfl
theorem U4 (k:Nat) (x0:Option Addr) (x1:Int) (σ:Aa):HH (k+1) x0 x1 σ=Ra k (Fa k) (An k) x0 x1 σ:=by
 simp only[HH,Fa,An,Ab]; kernel_rfl
theorem Ym (k:Nat) (x0_0:Int) (x0_1:Int) (x0_2:Int) (σ:Aa):BP (k+1) x0_0 x0_1 x0_2 σ=VO k (Gi k) x0_0 x0_1 x0_2 σ:=by
 simp only[Gi,BP,Ab]; kernel_rfl
theorem FH (k n:Nat) (p0:Option Addr) (i1:Int) (x7:Option Addr × Nat × Nat) (x8:Int) (x9:Int) (σ:Aa):BO k (n+1) p0 i1 x7 x8 x9 σ=Fq k n (BO k) (CJ k) p0 i1 x7 x8 x9 σ:=by
 simp only[BO,CJ,Ab]; kernel_rfl
theorem Nq (k:Nat) (x0:Option Addr) (x1:Int) (x2:Int) (σ:Aa):EA (k+1) x0 x1 x2 σ=Ll k (BO k) (CJ k) x0 x1 x2 σ:=by
 simp only[EA,BO,CJ,Ab]; kernel_rfl
theorem OM (k:Nat) (x0:Option Addr) (x1:Int) (σ:Aa):CH (k+1) x0 x1 σ=Na k (AJ k) x0 x1 σ:=by
 simp only[AJ,CH,Ab]; kernel_rfl
theorem Yk (k:Nat) (x0_0:Int) (x0_1:Int) (x0_2:Int) (σ:Aa):EL (k+1) x0_0 x0_1 x0_2 σ=VM k (BP k) x0_0 x0_1 x0_2 σ:=by
 simp only[EL,BP,Ab]; kernel_rfl
theorem Z2 (k:Nat) (x0_0:Int) (x0_1:Int) (x0_2:Int) (σ:Aa):HK (k+1) x0_0 x0_1 x0_2 σ=Xd k (BP k) x0_0 x0_1 x0_2 σ:=by
 simp only[HK,BP,Ab]; kernel_rfl
theorem Qt (k n:Nat) (p0:Option Addr) (i1:Int) (i2:Int) (x6:Int) (σ:Aa):H5 k (n+1) p0 i1 i2 x6 σ=Pm k n (Bk k) (H5 k) p0 i1 i2 x6 σ:=by
 simp only[Bk,H5,Ab]; kernel_rfl
theorem Wq (k n:Nat) (p0:Option Addr) (i1:Int) (x5:Int) (σ:Aa):H0 k (n+1) p0 i1 x5 σ=TE k n (Bs k) (H0 k) (H5 k) p0 i1 x5 σ:=by
 simp only[Bs,H0,H5,Ab]; kernel_rfl
theorem Z3 (k:Nat) (x0:Option Addr) (x1:Int) (σ:Aa):E3 (k+1) x0 x1 σ=Xe k (H0 k) x0 x1 σ:=by
 simp only[E3,H0,Ab]; kernel_rfl
theorem Qs (k:Nat) (x0:Option Addr) (x1:Int) (x2:Int) (x3_0:Int) (x3_1:Int) (x3_2:Int) (σ:Aa):Aw (k+1) x0 x1 x2 x3_0 x3_1 x3_2 σ=M6 k (CO k) (Dz k) (Cd k) (EL k) x0 x1 x2 x3_0 x3_1 x3_2 σ:=by
 simp only[CO,Dz,Cd,EL,Aw,Ab]; kernel_rfl
theorem QM (k:Nat) (x0:Option Addr) (x1_0:Int) (x1_1:Int) (x1_2:Int) (x2:Int) (σ:Aa):D0 (k+1) x0 x1_0 x1_1 x1_2 x2 σ=Nc k (Aw k) (E3 k) x0 x1_0 x1_1 x1_2 x2 σ:=by
 simp only[D0,Aw,E3,Ab]; kernel_rfl
theorem Jd (k n:Nat) (p0:Option Addr) (i1:Int) (h2:Nat) (i3:Int) (p4:Option Addr) (c5:Nat) (c6:Nat) (x10:Int) (σ:Aa):Cy k (n+1) p0 i1 h2 i3 p4 c5 c6 x10 σ=Hd k n (Cy k) (Aw k) p0 i1 h2 i3 p4 c5 c6 x10 σ:=by
 simp only[Cy,Aw,Ab]; kernel_rfl
theorem Jc (k n:Nat) (p0:Option Addr) (i1:Int) (h2:Nat) (x8:Int) (σ:Aa):Cx k (n+1) p0 i1 h2 x8 σ=Hc k n (Bs k) (Cd k) (Bk k) (Cx k) (Cy k) (J9 k) p0 i1 h2 x8 σ:=by
 simp only[Bs,Cd,Bk,Cx,Cy,J9,Ab]; kernel_rfl
theorem Qr (k:Nat) (x0:Option Addr) (x1_0:Int) (x1_1:Int) (x1_2:Int) (x2:Int) (σ:Aa):Fc (k+1) x0 x1_0 x1_1 x1_2 x2 σ=M5 k (D0 k) (Cx k) (Fw k) x0 x1_0 x1_1 x1_2 x2 σ:=by
 simp only[D0,Fc,Cx,Fw,Ab]; kernel_rfl
theorem IJ (k n:Nat) (p0:Option Addr) (i1:Int) (p2:Option Addr) (c3:Nat) (c4:Nat) (x7:Int) (σ:Aa):CQ k (n+1) p0 i1 p2 c3 c4 x7 σ=GF k n (CQ k) p0 i1 p2 c3 c4 x7 σ:=by
 simp only[CQ,Ab]; kernel_rfl
theorem IK (k n:Nat) (p0:Option Addr) (i1:Int) (p2:Option Addr) (c3:Nat) (c4:Nat) (x10:Int) (x11:Int) (σ:Aa):CR k (n+1) p0 i1 p2 c3 c4 x10 x11 σ=GG k n (CR k) p0 i1 p2 c3 c4 x10 x11 σ:=by
 simp only[CR,Ab]; kernel_rfl
theorem PI (k:Nat) (x0:Option Addr) (x1:Int) (σ:Aa):DM (k+1) x0 x1 σ=Lz k (CQ k) (CR k) (Fv k) x0 x1 σ:=by
 simp only[DM,CQ,CR,Fv,Ab]; kernel_rfl
theorem GQ (k:Nat) (x0:Option Addr × Nat × Nat) (x1:Value) (σ:Aa):Cc (k+1) x0 x1 σ=Fs k (C5 k) x0 x1 σ:=by
 simp only[Cc,C5,Ab]; kernel_rfl
theorem MA (k:Nat) (x0_0:Int) (x0_1:Int) (σ:Aa):CG (k+1) x0_0 x0_1 σ=Ko k  x0_0 x0_1 σ:=by
 simp only[CG,Ab]; kernel_rfl
theorem NJ (k:Nat) (x0:Option Addr) (x1:Int) (x2:Option Addr × Nat × Nat) (σ:Aa):ES (k+1) x0 x1 x2 σ=Ma k (Cb k) (D1 k) (Dt k) x0 x1 x2 σ:=by
 simp only[ES,Cb,D1,Dt,Ab]; kernel_rfl
theorem P7 (k:Nat) (x0:Option Addr) (x1:Int) (x2:Int) (σ:Aa):FY (k+1) x0 x1 x2 σ=Oh k (CK k) x0 x1 x2 σ:=by
 simp only[CK,FY,Ab]; kernel_rfl
theorem NK (k:Nat) (x0:Option Addr) (x1:Int) (σ:Aa):D1 (k+1) x0 x1 σ=Mb k (Cb k) x0 x1 σ:=by
 simp only[Cb,D1,Ab]; kernel_rfl
theorem P6 (k:Nat) (x0:Option Addr) (x1:Int) (σ:Aa):Dd (k+1) x0 x1 σ=Og k (CK k) x0 x1 σ:=by
 simp only[Dd,CK,Ab]; kernel_rfl
theorem LD (k n:Nat) (p0:Option Addr) (c1:Nat) (c2:Nat) (i3:Int) (i4:Int) (x8:Int) (σ:Aa):DU k (n+1) p0 c1 c2 i3 i4 x8 σ=JM k n (DU k) p0 c1 c2 i3 i4 x8 σ:=by
 simp only[DU,Ab]; kernel_rfl
theorem NM (k:Nat) (x0:Option Addr × Nat × Nat) (x1:Int) (σ:Aa):Ga (k+1) x0 x1 σ=Md k (DU k) x0 x1 σ:=by
 simp only[Ga,DU,Ab]; kernel_rfl
theorem IL (k n:Nat) (p0:Option Addr) (i1:Int) (x8:Int) (σ:Aa):Dq k (n+1) p0 i1 x8 σ=HD k n (Dq k) (Dd k) p0 i1 x8 σ:=by
 simp only[Dq,Dd,Ab]; kernel_rfl
theorem OP (k:Nat) (x0:Option Addr) (x1:Int) (x2:Int) (σ:Aa):Fx (k+1) x0 x1 x2 σ=Ng k (Dq k) (Cb k) x0 x1 x2 σ:=by
 simp only[Fx,Dq,Cb,Ab]; kernel_rfl
theorem MG (k n:Nat) (p0:Option Addr) (i1:Int) (x8:Int) (σ:Aa):Dr k (n+1) p0 i1 x8 σ=Ku k n (Dr k) (Dd k) p0 i1 x8 σ:=by
 simp only[Dr,Dd,Ab]; kernel_rfl
theorem OQ (k:Nat) (x0:Option Addr) (x1:Int) (x2:Int) (σ:Aa):CJ (k+1) x0 x1 x2 σ=Nh k (Dr k) (Cb k) x0 x1 x2 σ:=by
 simp only[CJ,Dr,Cb,Ab]; kernel_rfl
theorem QO (k:Nat) (x0:Option Addr) (x1_0:Int) (x1_1:Int) (x1_2:Int) (x2:Int) (σ:Aa):Fw (k+1) x0 x1_0 x1_1 x1_2 x2 σ=Nf k (Aw k) (E3 k) x0 x1_0 x1_1 x1_2 x2 σ:=by
 simp only[Fw,Aw,E3,Ab]; kernel_rfl
theorem P3 (k n:Nat) (p0:Option Addr) (c1:Nat) (c2:Nat) (x5:Option Addr × Nat × Nat) (x7:Int) (σ:Aa):GU k (n+1) p0 c1 c2 x5 x7 σ=Od k n (GU k) p0 c1 c2 x5 x7 σ:=by
 simp only[GU,Ab]; kernel_rfl
theorem Yo (k:Nat) (x0:Option Addr) (x1:Int) (σ:Aa):J9 (k+1) x0 x1 σ=VQ k (He k) (GU k) x0 x1 σ:=by
 simp only[He,J9,GU,Ab]; kernel_rfl
theorem J3 (k n:Nat) (p0:Option Addr) (x3:Option Addr × Nat × Nat) (x4:Int) (σ:Aa):Ds k (n+1) p0 x3 x4 σ=Hv k n (Bs k) (HI k) (Cd k) (Bk k) (Ds k) p0 x3 x4 σ:=by
 simp only[Bs,HI,Cd,Bk,Ds,Ab]; kernel_rfl
theorem QN (k:Nat) (x0:Option Addr) (σ:Aa):Fv (k+1) x0 σ=Nd k (Ds k) x0 σ:=by
 simp only[Fv,Ds,Ab]; kernel_rfl
theorem EM (k n:Nat) (p0:Option Addr) (c1:Nat) (c2:Nat) (v3:Value) (i4:Int) (x8:Int) (σ:Aa):Bo k (n+1) p0 c1 c2 v3 i4 x8 σ=DX k n (HF k) (Bo k) p0 c1 c2 v3 i4 x8 σ:=by
 simp only[HF,Bo,Ab]; kernel_rfl
theorem HL (k:Nat) (x0:Option Addr × Nat × Nat) (x1:Value) (σ:Aa):C5 (k+1) x0 x1 σ=Gm k (Bo k) x0 x1 σ:=by
 simp only[C5,Bo,Ab]; kernel_rfl
theorem J4 (k:Nat) (x0:Option Addr × Nat × Nat) (x1:Value) (σ:Aa):Dt (k+1) x0 x1 σ=Hw k (E4 k) x0 x1 σ:=by
 simp only[Dt,E4,Ab]; kernel_rfl
theorem LB (k:Nat) (x0:Int) (c0:Option Addr) (σ:Aa):C2 (k+1) x0 c0 σ=JK k (ET k) x0 c0 σ:=by
 simp only[C2,ET,Ab]; kernel_rfl
theorem NL (k:Nat) (x0:Option Addr) (x1:Int) (σ:Aa):ET (k+1) x0 x1 σ=Mc k (CK k) x0 x1 σ:=by
 simp only[CK,ET,Ab]; kernel_rfl
theorem OS (k:Nat) (x0:Option Addr) (σ:Aa):CK (k+1) x0 σ=Nj k  x0 σ:=by
 simp only[CK,Ab]; kernel_rfl
theorem GA (k n:Nat) (p0:Option Addr) (c1:Nat) (c2:Nat) (v3:Value) (i4:Int) (x8:Int) (σ:Aa):C8 k (n+1) p0 c1 c2 v3 i4 x8 σ=FG k n (M8 k) (C8 k) p0 c1 c2 v3 i4 x8 σ:=by
 simp only[M8,C8,Ab]; kernel_rfl
theorem Le (k:Nat) (x0:Option Addr × Nat × Nat) (x1:Value) (σ:Aa):E4 (k+1) x0 x1 σ=Jj k (C8 k) x0 x1 σ:=by
 simp only[E4,C8,Ab]; kernel_rfl
theorem Nm (k:Nat) (x1:Option Addr) (x2:Int) (σ:Aa):CV (k+1) x1 x2 σ=Li k (AM k) (AO k) x1 x2 σ:=by
 simp only[AM,AO,CV,Ab]; kernel_rfl
theorem K6 (k:Nat) (x0:Option Addr) (x1:Option Addr × Nat × Nat) (σ:Aa):AO (k+1) x0 x1 σ=I9 k (Bt k) x0 x1 σ:=by
 simp only[Bt,AO,Ab]; kernel_rfl
theorem G4 (k n:Nat) (i0:Int) (i1:Int) (p2:Option Addr) (c3:Nat) (c4:Nat) (i5:Int) (x7:Option Addr × Nat × Nat) (x27:Int) (σ:Aa):BJ k (n+1) i0 i1 p2 c3 c4 i5 x7 x27 σ=FD k n (BJ k) i0 i1 p2 c3 c4 i5 x7 x27 σ:=by
 simp only[BJ,Ab]; kernel_rfl
theorem G3 (k n:Nat) (p0:Option Addr) (i1:Int) (i2:Int) (p3:Option Addr) (c4:Nat) (c5:Nat) (i6:Int) (x7:Option Addr × Nat × Nat) (x16:Int) (σ:Aa):BI k (n+1) p0 i1 i2 p3 c4 c5 i6 x7 x16 σ=FC k n (BI k) (BJ k) (DK k) p0 i1 i2 p3 c4 c5 i6 x7 x16 σ:=by
 simp only[BI,BJ,DK,Ab]; kernel_rfl
theorem KZ (k:Nat) (x0:Option Addr) (x1:Int) (x2:Int) (σ:Aa):AM (k+1) x0 x1 x2 σ=Je k (Bq k) (BI k) x0 x1 x2 σ:=by
 simp only[Bq,AM,BI,Ab]; kernel_rfl
theorem Gn (k n:Nat) (p0:Option Addr) (h1:Nat) (x4:Int) (σ:Aa):BS k (n+1) p0 h1 x4 σ=Fp k n (BS k) (Az k) (Cp k) p0 h1 x4 σ:=by
 simp only[BS,Az,Cp,Ab]; kernel_rfl
theorem Ky (k:Nat) (x0:Option Addr) (σ:Aa):Bt (k+1) x0 σ=I7 k (BS k) x0 σ:=by
 simp only[Bt,BS,Ab]; kernel_rfl
theorem FQ (k n:Nat) (p0:Option Addr) (i1:Int) (x3:Option Addr × Nat × Nat) (x10:Int) (σ:Aa):Bw k (n+1) p0 i1 x3 x10 σ=Fg k n (Bw k) (B7 k) (BX k) p0 i1 x3 x10 σ:=by
 simp only[Bw,B7,BX,Ab]; kernel_rfl
theorem JW (k:Nat) (x0:Option Addr) (σ:Aa):Bq (k+1) x0 σ=Ia k (Bw k) (Az k) x0 σ:=by
 simp only[Bq,Bw,Az,Ab]; kernel_rfl
theorem ND (k:Nat) (x1:Option Addr) (x2:Int) (σ:Aa):Dv (k+1) x1 x2 σ=LV k (AM k) (AO k) (Bh k) x1 x2 σ:=by
 simp only[AM,AO,Dv,Bh,Ab]; kernel_rfl
theorem EU (k:Nat) (x0:Option Addr × Nat × Nat) (x1:Value) (σ:Aa):Bh (k+1) x0 x1 σ=Ek k (Cn k) x0 x1 σ:=by
 simp only[Bh,Cn,Ab]; kernel_rfl
theorem L0 (k:Nat) (x0_0:Int) (x0_1:Int) (x1_0:Int) (x1_1:Int) (σ:Aa):CU (k+1) x0_0 x0_1 x1_0 x1_1 σ=JE k  x0_0 x0_1 x1_0 x1_1 σ:=by
 simp only[CU,Ab]; kernel_rfl
theorem EC (k n:Nat) (p0:Option Addr) (c1:Nat) (c2:Nat) (i3:Int) (v4:Value) (x7:Int) (x8:Int) (σ:Aa):AQ k (n+1) p0 c1 c2 i3 v4 x7 x8 σ=D9 k n (A9 k) (AQ k) p0 c1 c2 i3 v4 x7 x8 σ:=by
 simp only[A9,AQ,Ab]; kernel_rfl
theorem GB (k n:Nat) (p0:Option Addr) (c1:Nat) (c2:Nat) (i3:Int) (v4:Value) (i5:Int) (x7:Int) (x8:Int) (σ:Aa):Bn k (n+1) p0 c1 c2 i3 v4 i5 x7 x8 σ=Fi k n (Bn k) (Ax k) p0 c1 c2 i3 v4 i5 x7 x8 σ:=by
 simp only[Bn,Ax,Ab]; kernel_rfl
theorem ED (k n:Nat) (p0:Option Addr) (c1:Nat) (c2:Nat) (i3:Int) (v4:Value) (x6:Int) (σ:Aa):AR k (n+1) p0 c1 c2 i3 v4 x6 σ=DA k n (AR k) (Bn k) (Ax k) p0 c1 c2 i3 v4 x6 σ:=by
 simp only[AR,Bn,Ax,Ab]; kernel_rfl
theorem Fj (k:Nat) (x0:Option Addr × Nat × Nat) (x1:Int) (x2:Value) (σ:Aa):Cn (k+1) x0 x1 x2 σ=Ex k (A9 k) (AQ k) (AR k) x0 x1 x2 σ:=by
 simp only[A9,Cn,AQ,AR,Ab]; kernel_rfl
theorem Dh (k n:Nat) (p0:Option Addr) (c1:Nat) (c2:Nat) (i3:Int) (v4:Value) (x9:Int) (σ:Aa):AH k (n+1) p0 c1 c2 i3 v4 x9 σ=C1 k n (Da k) (AH k) p0 c1 c2 i3 v4 x9 σ:=by
 simp only[Da,AH,Ab]; kernel_rfl
theorem Dg (k n:Nat) (p0:Option Addr) (c1:Nat) (c2:Nat) (i3:Int) (i4:Int) (v5:Value) (x8:Int) (σ:Aa):AG k (n+1) p0 c1 c2 i3 i4 v5 x8 σ=C0 k n (AG k) (AH k) p0 c1 c2 i3 i4 v5 x8 σ:=by
 simp only[AG,AH,Ab]; kernel_rfl
theorem DV (k:Nat) (x0:Option Addr × Nat × Nat) (x1:Int) (x2:Int) (x3:Value) (σ:Aa):A9 (k+1) x0 x1 x2 x3 σ=CP k (AG k) x0 x1 x2 x3 σ:=by
 simp only[A9,AG,Ab]; kernel_rfl
theorem KB (k n:Nat) (p0:Option Addr) (c1:Nat) (c2:Nat) (i3:Int) (v4:Value) (x10:Int) (x11:Int) (σ:Aa):BB k (n+1) p0 c1 c2 i3 v4 x10 x11 σ=GM k n (Da k) (BB k) p0 c1 c2 i3 v4 x10 x11 σ:=by
 simp only[Da,BB,Ab]; kernel_rfl
theorem Gp (k n:Nat) (p0:Option Addr) (c1:Nat) (c2:Nat) (i3:Int) (x13:Int) (σ:Aa):BE k (n+1) p0 c1 c2 i3 x13 σ=EJ k n (BE k) p0 c1 c2 i3 x13 σ:=by
 simp only[BE,Ab]; kernel_rfl
theorem KC (k n:Nat) (p0:Option Addr) (c1:Nat) (c2:Nat) (i3:Int) (v4:Value) (x14:Int) (x15:Int) (σ:Aa):BF k (n+1) p0 c1 c2 i3 v4 x14 x15 σ=GN k n (Da k) (BF k) p0 c1 c2 i3 v4 x14 x15 σ:=by
 simp only[Da,BF,Ab]; kernel_rfl
theorem Gq (k n:Nat) (p0:Option Addr) (c1:Nat) (c2:Nat) (i3:Int) (x17:Int) (σ:Aa):BG k (n+1) p0 c1 c2 i3 x17 σ=EK k n (BG k) p0 c1 c2 i3 x17 σ:=by
 simp only[BG,Ab]; kernel_rfl
theorem KD (k n:Nat) (p0:Option Addr) (c1:Nat) (c2:Nat) (v3:Value) (i4:Int) (x20:Int) (x21:Int) (σ:Aa):BH k (n+1) p0 c1 c2 v3 i4 x20 x21 σ=GO k n (Da k) (BH k) p0 c1 c2 v3 i4 x20 x21 σ:=by
 simp only[Da,BH,Ab]; kernel_rfl
theorem LF (k:Nat) (x0:Option Addr × Nat × Nat) (x1:Int) (x2:Int) (x3:Int) (x4:Value) (σ:Aa):Ax (k+1) x0 x1 x2 x3 x4 σ=HE k (Cm k) (Ax k) (BB k) (BE k) (BF k) (BG k) (BH k) x0 x1 x2 x3 x4 σ:=by
 simp only[Cm,Ax,BB,BE,BF,BG,BH,Ab]; kernel_rfl
theorem Lp (k n:Nat) (p0:Option Addr) (c1:Nat) (c2:Nat) (i3:Int) (v4:Value) (x10:Int) (x11:Int) (σ:Aa):BR k (n+1) p0 c1 c2 i3 v4 x10 x11 σ=Hq k n (BR k) (Bz k) p0 c1 c2 i3 v4 x10 x11 σ:=by
 simp only[BR,Bz,Ab]; kernel_rfl
theorem MR (k:Nat) (x0:Option Addr × Nat × Nat) (x1:Int) (x2:Int) (x3:Int) (x4:Value) (σ:Aa):Cm (k+1) x0 x1 x2 x3 x4 σ=IC k (BR k) (Bz k) x0 x1 x2 x3 x4 σ:=by
 simp only[Cm,BR,Bz,Ab]; kernel_rfl
theorem Gg (k n:Nat) (p0:Option Addr) (c1:Nat) (c2:Nat) (i3:Int) (i4:Int) (i5:Int) (x10:Int) (σ:Aa):B8 k (n+1) p0 c1 c2 i3 i4 i5 x10 σ=E9 k n (B8 k) p0 c1 c2 i3 i4 i5 x10 σ:=by
 simp only[B8,Ab]; kernel_rfl
theorem Lq (k:Nat) (x0:Option Addr × Nat × Nat) (x1:Int) (x2:Int) (x3:Int) (x4:Value) (σ:Aa):Bz (k+1) x0 x1 x2 x3 x4 σ=Hr k (B8 k) x0 x1 x2 x3 x4 σ:=by
 simp only[Bz,B8,Ab]; kernel_rfl
theorem NG (k:Nat) (x1:Option Addr) (x2:Int) (σ:Aa):Dx (k+1) x1 x2 σ=LX k (AM k) (AO k) x1 x2 σ:=by
 simp only[AM,AO,Dx,Ab]; kernel_rfl
theorem NF (k:Nat) (x1:Option Addr) (x2:Int) (σ:Aa):Dw (k+1) x1 x2 σ=LW k (B3 k) x1 x2 σ:=by
 simp only[B3,Dw,Ab]; kernel_rfl
theorem JX (k:Nat) (x0:Option Addr) (x1:Option Addr) (x2:Int) (σ:Aa):B3 (k+1) x0 x1 x2 σ=Ib k (Bt k) (DI k) (De k) x0 x1 x2 σ:=by
 simp only[Bt,B3,DI,De,Ab]; kernel_rfl
theorem Pu (k:Nat) (x0:Option Addr) (x1:Int) (σ:Aa):DI (k+1) x0 x1 σ=NU k  x0 x1 σ:=by
 simp only[DI,Ab]; kernel_rfl
theorem OH (k:Nat) (x0:Option Addr) (x1:Int) (σ:Aa):De (k+1) x0 x1 σ=MV k  x0 x1 σ:=by
 simp only[De,Ab]; kernel_rfl
theorem Nn (k:Nat) (x1:Option Addr) (x2:Int) (σ:Aa):CW (k+1) x1 x2 σ=Lj k (B3 k) (CF k) (DI k) (De k) x1 x2 σ:=by
 simp only[B3,CF,DI,De,CW,Ab]; kernel_rfl
theorem G6 (k n:Nat) (p0:Option Addr) (c1:Nat) (c2:Nat) (x8:Int) (σ:Aa):Ch k (n+1) p0 c1 c2 x8 σ=FF k n (Ch k) p0 c1 c2 x8 σ:=by
 simp only[Ch,Ab]; kernel_rfl
theorem J2 (k n:Nat) (p0:Option Addr) (h1:Nat) (i2:Int) (p3:Option Addr) (c4:Nat) (c5:Nat) (x7:Int) (σ:Aa):Cg k (n+1) p0 h1 i2 p3 c4 c5 x7 σ=Hu k n (Cg k) (Ch k) p0 h1 i2 p3 c4 c5 x7 σ:=by
 simp only[Cg,Ch,Ab]; kernel_rfl
theorem G5 (k n:Nat) (p0:Option Addr) (h1:Nat) (p2:Option Addr) (c3:Nat) (c4:Nat) (i5:Int) (x13:Int) (σ:Aa):BL k (n+1) p0 h1 p2 c3 c4 i5 x13 σ=FE k n (BL k) (Cg k) (DY k) p0 h1 p2 c3 c4 i5 x13 σ:=by
 simp only[BL,Cg,DY,Ab]; kernel_rfl
theorem La (k:Nat) (x0:Option Addr) (σ:Aa):CF (k+1) x0 σ=Jf k (Bt k) (Bq k) (BL k) x0 σ:=by
 simp only[Bt,Bq,CF,BL,Ab]; kernel_rfl
theorem WA (k:Nat) (x0:Int) (x1:Int) (x2:Int) (x3:Option Addr × Nat × Nat) (x4_0:Int) (x4_1:Int) (x4_2:Int) (σ:Aa):fn P (XK Kn.b) H k 5 [.int .i64 x0,.int .i64 x1,.int .i64 x2,.slice x3.1 x3.2.1 x3.2.2,.agg #[.int .i64 x4_0,.int .i64 x4_1,.int .i64 x4_2]] σ=JY k x0 x1 x2 x3 x4_0 x4_1 x4_2 σ:=by
 simp only[JY,Ab]
theorem MQ (k:Nat) (x0:Option Addr) (x1:Int) (σ:Aa):Cl k (.func (.func 99) #[] #[]) [.pointer x0,.int .i64 x1] σ=BW k x0 x1 σ:=by
 simp only[Cl,BW,Ab]; kernel_rfl
theorem OG (k:Nat) (x0_0:Int) (x0_1:Int) (σ:Aa):HF k (.func (.func 166) #[] #[]) [.agg #[.int .i64 x0_0,.int .i64 x0_1]] σ=CG k x0_0 x0_1 σ:=by
 simp only[HF,CG,Ab]; kernel_rfl
theorem OE (k:Nat) (x0:Int) (c0:Option Addr) (σ:Aa):M8 k (.func (.func 179) #[] #[.pointer c0]) [.int .i64 x0] σ=C2 k x0 c0 σ:=by
 simp only[M8,C2,Ab]; kernel_rfl
theorem Nl (k:Nat) (x0_0:Int) (x0_1:Int) (x1_0:Int) (x1_1:Int) (σ:Aa):Da k (.func (.func 206) #[] #[]) [.agg #[.int .i64 x0_0,.int .i64 x0_1],.agg #[.int .i64 x1_0,.int .i64 x1_1]] σ=CU k x0_0 x0_1 x1_0 x1_1 σ:=by
 simp only[Da,CU,Ab]; kernel_rfl
end
theorem Yi [AF] (k:Nat) (σ:Aa):@Fo _ ⟨true⟩ (k+1) σ=some (.bool true,σ):=by
 simp only[Fo,Ab]; kernel_rfl
theorem aF (a:Addr):Vi P Jt (.pointer (some a)) (.pointer none)=some false∧Vi P Jt (.pointer none) (.pointer none)=some true∧Vi P JP (.pointer (some a)) (.pointer none)=some false∧Vi P JP (.pointer none) (.pointer none)=some true∧Vi P Hk (.pointer (some a)) (.pointer none)=some false∧Vi P Hk (.pointer none) (.pointer none)=some true∧Vi P Fz (.pointer (some a)) (.pointer none)=some false∧Vi P Fz (.pointer none) (.pointer none)=some true∧Vi P LK (.pointer (some a)) (.pointer none)=some false∧Vi P LK (.pointer none) (.pointer none)=some true:=by
 refine ⟨?_, ?_, ?_, ?_, ?_, ?_, ?_, ?_, ?_, ?_⟩ <;> kernel_rfl
abbrev Wt:FuncId:=5
abbrev LH:FuncId:=99
abbrev NN:FuncId:=166
abbrev Nw:FuncId:=206
section
local instance tQ:Kn:=⟨false⟩
variable [AF]
theorem U3 (k:Nat)  (σ:Aa):Fo (k+1)  σ=VK k (AN k) (GP k) (Cp k) (DL k) (Cq k) (G8 k)  σ:=by
 simp only[AN,GP,Cp,DL,Cq,G8,Fo,Ab]; kernel_rfl
end
end Go.Proofs.YtlaplcglpnlieaaGreat
