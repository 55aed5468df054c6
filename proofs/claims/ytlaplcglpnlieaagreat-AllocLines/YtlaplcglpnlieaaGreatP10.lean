/-
 PRINTED BY A PROGRAM OF THIS SESSION'S OWN (gen2.py): the unfolding equations.
-/
import Derived.Test.YtlaplcglpnlieaaGreatP9
set_option maxRecDepth 100000
set_option linter.unusedVariables false
set_option linter.unusedSimpArgs false
set_option linter.unusedSectionVars false
namespace Go.Proofs.YtlaplcglpnlieaaGreat
open Go Go.AX
section
variable [AK] [Kn]
theorem L0 (k n:Nat) (i0:Int) (p1:Option Addr) (c2:Nat) (c3:Nat) (x21:Int) (σ:Aa):DK k (n+1) i0 p1 c2 c3 x21 σ=JI k n (DK k) i0 p1 c2 c3 x21 σ:=by
 simp only[DK,Ab]; kernel_rfl
theorem TN (k:Nat) (x0:Int) (x1:Int) (x2:Option Addr × Nat × Nat) (x3_0:Int) (x3_1:Int) (x3_2:Int) (σ:Aa):Js (k+1) x0 x1 x2 x3_0 x3_1 x3_2 σ=PQ k (AM k) (DC k) (Gw k) (Cm k) (Er k) (DK k) (Fj k) (KN k) x0 x1 x2 x3_0 x3_1 x3_2 σ:=by
 simp only[AM,DC,Gw,Cm,Er,Js,DK,Fj,KN,Ab]; kernel_rfl
theorem Rw (k:Nat) (x0:Int) (σ:Aa):G7 (k+1) x0 σ=SN k (Me k) x0 σ:=by
 simp only[G7,Me,Ab]; kernel_rfl
theorem aj (k:Nat) (x0:Int) (σ:Aa):K9 (k+1) x0 σ=YF k  x0 σ:=by
 simp only[K9,Ab]; kernel_rfl
theorem U1 (k:Nat) (x0:Option Addr) (σ:Aa):Gw (k+1) x0 σ=QS k (AE k) (IG k) (He k) (Ez k) (Hf k) x0 σ:=by
 simp only[Gw,AE,IG,He,Ez,Hf,Ab]; kernel_rfl
theorem Qi (k n:Nat) (p0:Option Addr) (c1:Nat) (c2:Nat) (p3:Option Addr) (p4:Option Addr) (p5:Option Addr) (p6:Option Addr) (x18:Int) (σ:Aa):G8 k (n+1) p0 c1 c2 p3 p4 p5 p6 x18 σ=Pd k n (G8 k) (Nk k) p0 c1 c2 p3 p4 p5 p6 x18 σ:=by
 simp only[G8,Nk,Ab]; kernel_rfl
theorem Zp (k:Nat) (x0:Int) (x1:Int) (x2:Int) (x3:Option Addr × Nat × Nat) (σ:Aa):KN (k+1) x0 x1 x2 x3 σ=WN k (GO k) (G7 k) (OI k) (L5 k) (G8 k) (K9 k) (KA k) x0 x1 x2 x3 σ:=by
 simp only[GO,G7,OI,L5,KN,G8,K9,KA,Ab]; kernel_rfl
theorem TD (k:Nat) (x0_0:Int) (x0_1:Int) (x0_2:Int) (σ:Aa):Er (k+1) x0_0 x0_1 x0_2 σ=SP k (Fo k) x0_0 x0_1 x0_2 σ:=by
 simp only[Fo,Er,Ab]; kernel_rfl
theorem Kx (k:Nat) (x0:Option Addr) (x1_0:Int) (x1_1:Int) (x1_2:Int) (σ:Aa):AM (k+1) x0 x1_0 x1_1 x1_2 σ=I5 k (Bz k) (DE k) (Cf k) (Cn k) (Co k) (Fo k) (Er k) x0 x1_0 x1_1 x1_2 σ:=by
 simp only[AM,Bz,DE,Cf,Cn,Co,Fo,Er,Ab]; kernel_rfl
theorem NB (k:Nat) (x0:Option Addr) (σ:Aa):AU (k+1) x0 σ=LY k (AE k) x0 σ:=by
 simp only[AU,AE,Ab]; kernel_rfl
theorem OE (k:Nat) (x0:Option Addr) (x1:Int) (σ:Aa):E9 (k+1) x0 x1 σ=MS k (AU k) x0 x1 σ:=by
 simp only[AU,E9,Ab]; kernel_rfl
theorem TC (k:Nat) (x0_0:Int) (x0_1:Int) (x0_2:Int) (σ:Aa):Fo (k+1) x0_0 x0_1 x0_2 σ=SO k  x0_0 x0_1 x0_2 σ:=by
 simp only[Fo,Ab]; kernel_rfl
theorem PB (k:Nat) (x0:Option Addr) (σ:Aa):DC (k+1) x0 σ=Lw k (Bz k) x0 σ:=by
 simp only[DC,Bz,Ab]; kernel_rfl
theorem K7 (k:Nat) (x0:Option Addr) (x1:Int) (σ:Aa):Co (k+1) x0 x1 σ=JX k (AU k) x0 x1 σ:=by
 simp only[AU,Co,Ab]; kernel_rfl
theorem IE (k n:Nat) (h0:Nat) (c1:Nat) (i2:Int) (x10:Int) (σ:Aa):Dj k (n+1) h0 c1 i2 x10 σ=HA k n (Dj k) h0 c1 i2 x10 σ:=by
 simp only[Dj,Ab]; kernel_rfl
theorem ID (k n:Nat) (p0:Option Addr) (h1:Nat) (c2:Nat) (p3:Option Addr) (c4:Nat) (c5:Nat) (i6:Int) (x20:Int) (σ:Aa):Di k (n+1) p0 h1 c2 p3 c4 c5 i6 x20 σ=H9 k n (Di k) (Dj k) (BR k) p0 h1 c2 p3 c4 c5 i6 x20 σ:=by
 simp only[Di,Dj,BR,Ab]; kernel_rfl
theorem HF (k:Nat) (x0:Option Addr) (x1:Int) (σ:Aa):Cm (k+1) x0 x1 σ=H8 k (Di k) (Cb k) (BS k) x0 x1 σ:=by
 simp only[Cm,Di,Cb,BS,Ab]; kernel_rfl
theorem XW (k:Nat) (x0:Option Addr × Nat × Nat) (σ:Aa):L5 (k+1) x0 σ=VH k  x0 σ:=by
 simp only[L5,Ab]; kernel_rfl
theorem ah (k:Nat) (x0:Int) (σ:Aa):OI (k+1) x0 σ=YD k  x0 σ:=by
 simp only[OI,Ab]; kernel_rfl
theorem U0 (k:Nat) (x0:Option Addr) (x1:Int) (x2:Int) (σ:Aa):GO (k+1) x0 x1 x2 σ=Ux k (DE k) (AU k) x0 x1 x2 σ:=by
 simp only[GO,DE,AU,Ab]; kernel_rfl
theorem ak (k:Nat) (x0:Option Addr) (x1:Int) (x2:Int) (σ:Aa):KA (k+1) x0 x1 x2 σ=YG k (Am k) x0 x1 x2 σ:=by
 simp only[Am,KA,Ab]; kernel_rfl
theorem Zq (k:Nat) (x0:Option Addr) (x1:Option Addr) (x2:Option Addr) (x3:Option Addr) (x4_0:Int) (x4_1:Int) (x4_2:Int) (x4_3:Int) (x4_4:Int) (x4_5:Int) (σ:Aa):Nk (k+1) x0 x1 x2 x3 x4_0 x4_1 x4_2 x4_3 x4_4 x4_5 σ=WO k (AM k) (EU k) (Cl k) (DF k) (Cn k) (F2 k) (Gx k) (OJ k) (CN k) (Fp k) (Dw k) (Ei k) (EN k) (Ec k) (EY k) x0 x1 x2 x3 x4_0 x4_1 x4_2 x4_3 x4_4 x4_5 σ:=by
 simp only[AM,EU,Cl,DF,Cn,F2,Gx,OJ,Nk,CN,Fp,Dw,Ei,EN,Ec,EY,Ab]; kernel_rfl
theorem OC (k:Nat) (x0:Option Addr) (x1:Int) (x2:Int) (σ:Aa):Cl (k+1) x0 x1 x2 σ=MQ k (DT k) x0 x1 x2 σ:=by
 simp only[Cl,DT,Ab]; kernel_rfl
theorem OD (k:Nat) (x0:Option Addr) (x1:Int) (x2_0:Int) (x2_1:Int) (x2_2:Int) (σ:Aa):Cn (k+1) x0 x1 x2_0 x2_1 x2_2 σ=MR k (FQ k) (AE k) (Fo k) (Er k) (Ic k) (CB k) x0 x1 x2_0 x2_1 x2_2 σ:=by
 simp only[Cn,FQ,AE,Fo,Er,Ic,CB,Ab]; kernel_rfl
theorem Jo (k n:Nat) (p0:Option Addr) (h1:Nat) (h2:Nat) (p3:Option Addr) (c4:Nat) (c5:Nat) (i6:Int) (x21:Int) (σ:Aa):CW k (n+1) p0 h1 h2 p3 c4 c5 i6 x21 σ=Iq k n (C7 k) (CW k) (BR k) p0 h1 h2 p3 c4 c5 i6 x21 σ:=by
 simp only[C7,CW,BR,Ab]; kernel_rfl
theorem Iu (k:Nat) (x0:Option Addr) (x1:Int) (σ:Aa):EV (k+1) x0 x1 σ=I9 k (C7 k) (CW k) (Cb k) (BS k) x0 x1 σ:=by
 simp only[EV,C7,CW,Cb,BS,Ab]; kernel_rfl
theorem La (k:Nat) (x0:Option Addr) (x1:Int) (x2:Int) (x3:Int) (σ:Aa):Dv (k+1) x0 x1 x2 x3 σ=Jk k (DT k) x0 x1 x2 x3 σ:=by
 simp only[Dv,DT,Ab]; kernel_rfl
theorem Pr (k:Nat) (x0:Option Addr) (x1:Int) (σ:Aa):DF (k+1) x0 x1 σ=NR k (EM k) (BR k) (FT k) (CB k) x0 x1 σ:=by
 simp only[DF,EM,BR,FT,CB,Ab]; kernel_rfl
theorem Lb (k n:Nat) (p0:Option Addr) (i1:Int) (x6:Int) (σ:Aa):Ep k (n+1) p0 i1 x6 σ=Jl k n (Ep k) p0 i1 x6 σ:=by
 simp only[Ep,Ab]; kernel_rfl
theorem SX (k:Nat) (x0:Option Addr) (x1:Int) (σ:Aa):F2 (k+1) x0 x1 σ=Pm k (Cb k) (Ep k) (FR k) (Da k) x0 x1 σ:=by
 simp only[Cb,F2,Ep,FR,Da,Ab]; kernel_rfl
theorem VP (k:Nat) (x0:Int) (x1:Int) (σ:Aa):Me (k+1) x0 x1 σ=Wi k (ED k) x0 x1 σ:=by
 simp only[Me,ED,Ab]; kernel_rfl
theorem Pt (k:Nat) (x0:Option Addr) (σ:Aa):AE (k+1) x0 σ=NT k  x0 σ:=by
 simp only[AE,Ab]; kernel_rfl
theorem Pg (k:Nat) (x0:Option Addr × Nat × Nat) (σ:Aa):Ez (k+1) x0 σ=KW k  x0 σ:=by
 simp only[Ez,Ab]; kernel_rfl
theorem Ua (k:Nat) (x0:Option Addr × Nat × Nat) (σ:Aa):Hf (k+1) x0 σ=Qd k  x0 σ:=by
 simp only[Hf,Ab]; kernel_rfl
theorem TZ (k:Nat) (x0:Option Addr) (σ:Aa):He (k+1) x0 σ=Qc k (B1 k) (FN k) x0 σ:=by
 simp only[He,B1,FN,Ab]; kernel_rfl
theorem U7 (k:Nat) (x0:Option Addr) (σ:Aa):Am (k+1) x0 σ=QX k  x0 σ:=by
 simp only[Am,Ab]; kernel_rfl
theorem TO (k:Nat) (x0:Option Addr) (x1:Int) (x2:Int) (σ:Aa):CN (k+1) x0 x1 x2 σ=PS k (Am k) (Ct k) (Gh k) x0 x1 x2 σ:=by
 simp only[CN,Am,Ct,Gh,Ab]; kernel_rfl
theorem Jd (k n:Nat) (p0:Option Addr) (i1:Int) (i2:Int) (x9:Int) (σ:Aa):Cq k (n+1) p0 i1 i2 x9 σ=GY k n (Cq k) p0 i1 i2 x9 σ:=by
 simp only[Cq,Ab]; kernel_rfl
theorem Je (k n:Nat) (p0:Option Addr) (i1:Int) (i2:Int) (i3:Int) (x10:Int) (σ:Aa):Cr k (n+1) p0 i1 i2 i3 x10 σ=GZ k n (Cr k) p0 i1 i2 i3 x10 σ:=by
 simp only[Cr,Ab]; kernel_rfl
theorem Qj (k:Nat) (x0:Option Addr) (x1:Int) (x2:Int) (x3:Int) (σ:Aa):Ea (k+1) x0 x1 x2 x3 σ=Mz k (Cq k) (Cr k) (Am k) (Ct k) (Gh k) x0 x1 x2 x3 σ:=by
 simp only[Ea,Cq,Cr,Am,Ct,Gh,Ab]; kernel_rfl
theorem K8 (k n:Nat) (p0:Option Addr) (i1:Int) (i2:Int) (x6:Int) (σ:Aa):Db k (n+1) p0 i1 i2 x6 σ=IA k n (Db k) p0 i1 i2 x6 σ:=by
 simp only[Db,Ab]; kernel_rfl
theorem Se (k:Nat) (x0:Option Addr) (x1:Int) (σ:Aa):Ei (k+1) x0 x1 σ=O8 k (Am k) (Eh k) (Db k) (BW k) (Ct k) x0 x1 σ:=by
 simp only[Am,Eh,Ei,Db,BW,Ct,Ab]; kernel_rfl
theorem M7 (k n:Nat) (p0:Option Addr) (i1:Int) (i2:Int) (x8:Int) (σ:Aa):EW k (n+1) p0 i1 i2 x8 σ=Ko k n (EW k) p0 i1 i2 x8 σ:=by
 simp only[EW,Ab]; kernel_rfl
theorem U2 (k:Nat) (x0:Option Addr) (x1:Int) (x2:Int) (σ:Aa):Gx (k+1) x0 x1 x2 σ=QT k (EW k) (FR k) (Da k) (GH k) x0 x1 x2 σ:=by
 simp only[Gx,EW,FR,Da,GH,Ab]; kernel_rfl
theorem L9 (k n:Nat) (p0:Option Addr) (i1:Int) (i2:Int) (i3:Int) (x8:Int) (σ:Aa):DN k (n+1) p0 i1 i2 i3 x8 σ=JM k n (DN k) p0 i1 i2 i3 x8 σ:=by
 simp only[DN,Ab]; kernel_rfl
theorem TS (k:Nat) (x0:Option Addr) (x1:Int) (x2:Int) (σ:Aa):EN (k+1) x0 x1 x2 σ=PW k (Am k) (DN k) (BW k) (Ct k) (Gh k) x0 x1 x2 σ:=by
 simp only[Am,EN,DN,BW,Ct,Gh,Ab]; kernel_rfl
theorem TR (k:Nat) (x0:Option Addr) (x1:Int) (x2_0:Int) (x2_1:Int) (x2_2:Int) (σ:Aa):Dw (k+1) x0 x1 x2_0 x2_1 x2_2 σ=PV k (Am k) (HI k) (GR k) (Gg k) x0 x1 x2_0 x2_1 x2_2 σ:=by
 simp only[Am,Dw,HI,GR,Gg,Ab]; kernel_rfl
theorem U6 (k:Nat) (x0:Option Addr) (x1:Int) (σ:Aa):Fp (k+1) x0 x1 σ=QW k (Cs k) (II k) (FU k) x0 x1 σ:=by
 simp only[Cs,Fp,II,FU,Ab]; kernel_rfl
theorem SY (k:Nat) (x0:Option Addr) (σ:Aa):Br (k+1) x0 σ=Pn k (Am k) x0 σ:=by
 simp only[Br,Am,Ab]; kernel_rfl
theorem Nl (k n:Nat) (p0:Option Addr) (x3:Option Addr × Nat × Nat) (x4:Int) (σ:Aa):F3 k (n+1) p0 x3 x4 σ=Lk k n (F3 k) (Am k) p0 x3 x4 σ:=by
 simp only[F3,Am,Ab]; kernel_rfl
theorem V3 (k:Nat) (x0:Option Addr) (σ:Aa):IH (k+1) x0 σ=RW k (F3 k) x0 σ:=by
 simp only[IH,F3,Ab]; kernel_rfl
theorem TU (k:Nat) (x0:Option Addr) (x1:Int) (σ:Aa):Bi (k+1) x0 x1 σ=PY k (Am k) x0 x1 σ:=by
 simp only[Am,Bi,Ab]; kernel_rfl
theorem TT (k:Nat) (x0:Option Addr) (x1:Int) (σ:Aa):BV (k+1) x0 x1 σ=PX k (Am k) x0 x1 σ:=by
 simp only[Am,BV,Ab]; kernel_rfl
theorem Ni (k:Nat) (x0:Option Addr) (x1:Int) (σ:Aa):Cb (k+1) x0 x1 σ=Li k (E4 k) (AE k) x0 x1 σ:=by
 simp only[Cb,E4,AE,Ab]; kernel_rfl
theorem Hd (k n:Nat) (p0:Option Addr) (i1:Int) (x5:Option Addr × Nat × Nat) (x6:Int) (σ:Aa):Eb k (n+1) p0 i1 x5 x6 σ=Gv k n (Am k) (Eb k) p0 i1 x5 x6 σ:=by
 simp only[Am,Eb,Ab]; kernel_rfl
theorem Sd (k:Nat) (x0:Option Addr) (x1:Int) (σ:Aa):Eh (k+1) x0 x1 σ=O7 k (Eb k) x0 x1 σ:=by
 simp only[Eh,Eb,Ab]; kernel_rfl
theorem MA (k n:Nat) (p0:Option Addr) (p1:Option Addr) (c2:Nat) (c3:Nat) (x5:Option Addr × Nat × Nat) (x6:Int) (x8:Int) (σ:Aa):Dl k (n+1) p0 p1 c2 c3 x5 x6 x8 σ=Kr k n (Dl k) (Cs k) (BL k) p0 p1 c2 c3 x5 x6 x8 σ:=by
 simp only[Dl,Cs,BL,Ab]; kernel_rfl
theorem U5 (k:Nat) (x0:Option Addr) (x1:Int) (σ:Aa):HH (k+1) x0 x1 σ=QV k (Dl k) (Eh k) (Bi k) x0 x1 σ:=by
 simp only[HH,Dl,Eh,Bi,Ab]; kernel_rfl
theorem L8 (k n:Nat) (p0:Option Addr) (i1:Int) (i2:Int) (x7:Bool) (x8:Int) (σ:Aa):DM k (n+1) p0 i1 i2 x7 x8 σ=JL k n (HG k) (DM k) p0 i1 i2 x7 x8 σ:=by
 simp only[HG,DM,Ab]; kernel_rfl
theorem L7 (k n:Nat) (p0:Option Addr) (i1:Int) (x5:Option Addr × Nat × Nat) (x6:Int) (σ:Aa):DL k (n+1) p0 i1 x5 x6 σ=JK k n (DL k) (DM k) p0 i1 x5 x6 σ:=by
 simp only[DL,DM,Ab]; kernel_rfl
theorem TQ (k:Nat) (x0:Option Addr) (x1:Int) (σ:Aa):Hc (k+1) x0 x1 σ=PU k (DL k) (Bi k) x0 x1 σ:=by
 simp only[Hc,DL,Bi,Ab]; kernel_rfl
theorem KZ (k:Nat) (x0:Option Addr) (σ:Aa):Bz (k+1) x0 σ=Jj k  x0 σ:=by
 simp only[Bz,Ab]; kernel_rfl
theorem Pp (k:Nat)  (σ:Aa):DE (k+1)  σ=NP k   σ:=by
 simp only[DE,Ab]; kernel_rfl
theorem Jc (k n:Nat) (p0:Option Addr) (i1:Int) (x7:Int) (σ:Aa):BO k (n+1) p0 i1 x7 σ=GX k n (BO k) (AU k) (Dv k) p0 i1 x7 σ:=by
 simp only[BO,AU,Dv,Ab]; kernel_rfl
theorem Kz (k:Nat) (x0:Option Addr) (x1:Int) (σ:Aa):BQ (k+1) x0 x1 σ=I7 k (BO k) x0 x1 σ:=by
 simp only[BQ,BO,Ab]; kernel_rfl
theorem NC (k:Nat) (x0:Option Addr) (x1:Int) (σ:Aa):EM (k+1) x0 x1 σ=LZ k (G6 k) (AE k) x0 x1 σ:=by
 simp only[G6,AE,EM,Ab]; kernel_rfl
theorem TE (k:Nat) (x0:Int) (σ:Aa):Jr (k+1) x0 σ=SQ k  x0 σ:=by
 simp only[Jr,Ab]; kernel_rfl
theorem Lm (k:Nat) (x0:Option Addr) (x1:Int) (σ:Aa):BS (k+1) x0 x1 σ=KL k (CG k) x0 x1 σ:=by
 simp only[CG,BS,Ab]; kernel_rfl
theorem Pu (k:Nat) (x0:Option Addr) (x1:Int) (σ:Aa):BR (k+1) x0 x1 σ=NU k (Er k) (Jr k) x0 x1 σ:=by
 simp only[BR,Er,Jr,Ab]; kernel_rfl
theorem QG (k:Nat) (x0:Option Addr) (σ:Aa):CH (k+1) x0 σ=MV k (Am k) x0 σ:=by
 simp only[Am,CH,Ab]; kernel_rfl
theorem Qk (k:Nat) (x0:Option Addr) (x1_0:Int) (x1_1:Int) (x1_2:Int) (σ:Aa):Ec (k+1) x0 x1_0 x1_1 x1_2 σ=M0 k (Ea k) (EJ k) (HJ k) (Gg k) (BL k) (CH k) (Dx k) (DG k) (EZ k) (Aw k) (Es k) x0 x1_0 x1_1 x1_2 σ:=by
 simp only[Ea,EJ,HJ,Gg,BL,Ec,CH,Dx,DG,EZ,Aw,Es,Ab]; kernel_rfl
theorem ai (k:Nat) (x0:Option Addr) (x1:Int) (σ:Aa):OJ (k+1) x0 x1 σ=YE k (IH k) x0 x1 σ:=by
 simp only[OJ,IH,Ab]; kernel_rfl
theorem Qg (k:Nat) (x0:Option Addr) (σ:Aa):EU (k+1) x0 σ=My k (Bz k) x0 σ:=by
 simp only[EU,Bz,Ab]; kernel_rfl
theorem Ql (k:Nat) (x0:Option Addr) (σ:Aa):EY (k+1) x0 σ=M1 k (CH k) x0 σ:=by
 simp only[CH,EY,Ab]; kernel_rfl
theorem IF (k n:Nat) (p0:Option Addr) (i1:Int) (h2:Nat) (i3:Int) (x54:Int) (σ:Aa):Dk k (n+1) p0 i1 h2 i3 x54 σ=HB k n (Dk k) p0 i1 h2 i3 x54 σ:=by
 simp only[Dk,Ab]; kernel_rfl
theorem OG (k:Nat) (x0:Option Addr) (x1:Int) (x2:Int) (x3_0:Int) (x3_1:Int) (x4_0:Int) (x4_1:Int) (σ:Aa):DT (k+1) x0 x1 x2 x3_0 x3_1 x4_0 x4_1 σ=MT k (Dk k) (AE k) (CG k) (GH k) (BU k) x0 x1 x2 x3_0 x3_1 x4_0 x4_1 σ:=by
 simp only[DT,Dk,AE,CG,GH,BU,Ab]; kernel_rfl
theorem Jp (k n:Nat) (p0:Option Addr) (i1:Int) (i2:Int) (i3:Int) (x10:Int) (σ:Aa):CX k (n+1) p0 i1 i2 i3 x10 σ=Ir k n (FP k) (CX k) p0 i1 i2 i3 x10 σ:=by
 simp only[FP,CX,Ab]; kernel_rfl
theorem Ps (k:Nat) (x0:Option Addr) (x1:Int) (x2:Int) (x3:Int) (σ:Aa):FQ (k+1) x0 x1 x2 x3 σ=NS k (CX k) (Da k) x0 x1 x2 x3 σ:=by
 simp only[FQ,CX,Da,Ab]; kernel_rfl
theorem Sc (k:Nat) (x0_0:Int) (x0_1:Int) (x0_2:Int) (σ:Aa):Ic (k+1) x0_0 x0_1 x0_2 σ=Rv k  x0_0 x0_1 x0_2 σ:=by
 simp only[Ic,Ab]; kernel_rfl
theorem Pz (k:Nat) (x0:Option Addr) (x1:Int) (x2:Int) (σ:Aa):CB (k+1) x0 x1 x2 σ=NZ k (EO k) (FW k) x0 x1 x2 σ:=by
 simp only[CB,EO,FW,Ab]; kernel_rfl
theorem Jn (k:Nat) (x0:Int) (c0:Option Addr) (c1:Option Addr) (σ:Aa):C7 (k+1) x0 c0 c1 σ=Ip k  x0 c0 c1 σ:=by
 simp only[C7,Ab]; kernel_rfl
theorem Py (k:Nat) (x0:Option Addr) (x1:Int) (σ:Aa):FV (k+1) x0 x1 σ=NY k (Dc k) (Dy k) x0 x1 σ:=by
 simp only[FV,Dc,Dy,Ab]; kernel_rfl
theorem Pw (k:Nat) (x0:Option Addr) (x1:Int) (x2:Int) (σ:Aa):FT (k+1) x0 x1 x2 σ=NW k  x0 x1 x2 σ:=by
 simp only[FT,Ab]; kernel_rfl
theorem V0 (k:Nat) (x0:Option Addr) (x1:Int) (x2:Bool) (σ:Aa):FR (k+1) x0 x1 x2 σ=RU k (AE k) (CG k) x0 x1 x2 σ:=by
 simp only[FR,AE,CG,Ab]; kernel_rfl
theorem Jq (k n:Nat) (p0:Option Addr) (i1:Int) (x5:Int) (σ:Aa):DI k (n+1) p0 i1 x5 σ=Is k n (DI k) p0 i1 x5 σ:=by
 simp only[DI,Ab]; kernel_rfl
theorem Pv (k:Nat) (x0:Option Addr) (x1:Int) (σ:Aa):Da (k+1) x0 x1 σ=NV k (DI k) x0 x1 σ:=by
 simp only[Da,DI,Ab]; kernel_rfl
theorem LC (k:Nat) (x0:Option Addr × Nat × Nat) (x1:Int) (σ:Aa):ED (k+1) x0 x1 σ=JP k (FX k) x0 x1 σ:=by
 simp only[ED,FX,Ab]; kernel_rfl
theorem OM (k:Nat) (x0:Option Addr) (σ:Aa):B1 (k+1) x0 σ=Nb k  x0 σ:=by
 simp only[B1,Ab]; kernel_rfl
theorem Rx (k:Nat) (x0:Option Addr × Nat × Nat) (σ:Aa):FN (k+1) x0 σ=N7 k  x0 σ:=by
 simp only[FN,Ab]; kernel_rfl
theorem TX (k:Nat) (x0:Option Addr) (x1:Int) (σ:Aa):Ct (k+1) x0 x1 σ=Qa k  x0 x1 σ:=by
 simp only[Ct,Ab]; kernel_rfl
theorem Ya (k:Nat) (x0:Int) (σ:Aa):Gh (k+1) x0 σ=VL k  x0 σ:=by
 simp only[Gh,Ab]; kernel_rfl
theorem LA (k n:Nat) (p0:Option Addr) (i1:Int) (x5:Int) (σ:Aa):DO k (n+1) p0 i1 x5 σ=JN k n (DO k) p0 i1 x5 σ:=by
 simp only[DO,Ab]; kernel_rfl
theorem TW (k:Nat) (x0:Option Addr) (x1:Int) (σ:Aa):BW (k+1) x0 x1 σ=PZ k (DO k) x0 x1 σ:=by
 simp only[BW,DO,Ab]; kernel_rfl
theorem TF (k:Nat) (x0:Int) (σ:Aa):GH (k+1) x0 σ=SR k  x0 σ:=by
 simp only[GH,Ab]; kernel_rfl
theorem XY (k:Nat) (x0_0:Int) (x0_1:Int) (x0_2:Int) (σ:Aa):Gg (k+1) x0_0 x0_1 x0_2 σ=VJ k  x0_0 x0_1 x0_2 σ:=by
 simp only[Gg,Ab]; kernel_rfl
theorem MB (k n:Nat) (p0:Option Addr) (i1:Int) (i2:Int) (h3:Nat) (x10:Int) (σ:Aa):Dm k (n+1) p0 i1 i2 h3 x10 σ=Ks k n (Dm k) (BL k) p0 i1 i2 h3 x10 σ:=by
 simp only[Dm,BL,Ab]; kernel_rfl
theorem U8 (k:Nat) (x0:Option Addr) (x1:Int) (x2_0:Int) (x2_1:Int) (x2_2:Int) (x3:Int) (σ:Aa):HI (k+1) x0 x1 x2_0 x2_1 x2_2 x3 σ=QY k (BW k) (Dm k) (EJ k) (HJ k) (BL k) x0 x1 x2_0 x2_1 x2_2 x3 σ:=by
 simp only[BW,HI,Dm,EJ,HJ,BL,Ab]; kernel_rfl
theorem Nm (k n:Nat) (p0:Option Addr) (h1:Nat) (x4:Int) (σ:Aa):E5 k (n+1) p0 h1 x4 σ=Ll k n (E5 k) p0 h1 x4 σ:=by
 simp only[E5,Ab]; kernel_rfl
theorem V5 (k:Nat) (x0:Option Addr) (x1_0:Int) (x1_1:Int) (x1_2:Int) (x1_3:Int) (x1_4:Int) (x1_5:Option Addr × Nat × Nat) (x1_6:Option Addr × Nat × Nat) (x1_7:Bool) (σ:Aa):GR (k+1) x0 x1_0 x1_1 x1_2 x1_3 x1_4 x1_5 x1_6 x1_7 σ=RY k (E5 k) x0 x1_0 x1_1 x1_2 x1_3 x1_4 x1_5 x1_6 x1_7 σ:=by
 simp only[GR,E5,Ab]; kernel_rfl
theorem TY (k:Nat) (x0:Option Addr) (x1:Int) (σ:Aa):FU (k+1) x0 x1 σ=Qb k (Cs k) (Am k) x0 x1 σ:=by
 simp only[Cs,Am,FU,Ab]; kernel_rfl
theorem V4 (k:Nat) (x0:Option Addr) (x1:Int) (σ:Aa):II (k+1) x0 x1 σ=RX k  x0 x1 σ:=by
 simp only[II,Ab]; kernel_rfl
theorem L6 (k n:Nat) (p0:Option Addr) (i1:Int) (x5:Int) (σ:Aa):EC k (n+1) p0 i1 x5 σ=JJ k n (EC k) p0 i1 x5 σ:=by
 simp only[EC,Ab]; kernel_rfl
theorem TP (k:Nat) (x0:Option Addr) (x1:Int) (σ:Aa):Cs (k+1) x0 x1 σ=PT k (EC k) (Am k) x0 x1 σ:=by
 simp only[Cs,EC,Am,Ab]; kernel_rfl
theorem Qh (k:Nat) (x0:Option Addr) (x1:Int) (σ:Aa):G6 (k+1) x0 x1 σ=Pc k (AE k) (FV k) x0 x1 σ:=by
 simp only[G6,AE,FV,Ab]; kernel_rfl
theorem Pq (k:Nat) (x0:Option Addr) (x1:Int) (σ:Aa):FP (k+1) x0 x1 σ=NQ k (AE k) (BR k) (Ft k) x0 x1 σ:=by
 simp only[FP,AE,BR,Ft,Ab]; kernel_rfl
theorem M9 (k n:Nat) (p0:Option Addr) (i1:Int) (x6:Int) (σ:Aa):EX k (n+1) p0 i1 x6 σ=Kq k n (EX k) (BL k) p0 i1 x6 σ:=by
 simp only[EX,BL,Ab]; kernel_rfl
theorem U4 (k:Nat) (x0:Option Addr) (x1:Int) (σ:Aa):HG (k+1) x0 x1 σ=QU k (EX k) (Am k) x0 x1 σ:=by
 simp only[HG,EX,Am,Ab]; kernel_rfl
theorem XZ (k:Nat) (x0_0:Int) (x0_1:Int) (x0_2:Int) (σ:Aa):BL (k+1) x0_0 x0_1 x0_2 σ=VK k (Gg k) x0_0 x0_1 x0_2 σ:=by
 simp only[Gg,BL,Ab]; kernel_rfl
theorem FC (k n:Nat) (p0:Option Addr) (i1:Int) (x7:Option Addr × Nat × Nat) (x8:Int) (x9:Int) (σ:Aa):BJ k (n+1) p0 i1 x7 x8 x9 σ=Fl k n (BJ k) (CI k) p0 i1 x7 x8 x9 σ:=by
 simp only[BJ,CI,Ab]; kernel_rfl
theorem Nj (k:Nat) (x0:Option Addr) (x1:Int) (x2:Int) (σ:Aa):E4 (k+1) x0 x1 x2 σ=Lj k (BJ k) (CI k) x0 x1 x2 σ:=by
 simp only[E4,BJ,CI,Ab]; kernel_rfl
theorem OH (k:Nat) (x0:Option Addr) (x1:Int) (σ:Aa):CG (k+1) x0 x1 σ=MU k (AE k) x0 x1 σ:=by
 simp only[AE,CG,Ab]; kernel_rfl
theorem XX (k:Nat) (x0_0:Int) (x0_1:Int) (x0_2:Int) (σ:Aa):EJ (k+1) x0_0 x0_1 x0_2 σ=VI k (BL k) x0_0 x0_1 x0_2 σ:=by
 simp only[EJ,BL,Ab]; kernel_rfl
theorem Zr (k:Nat) (x0_0:Int) (x0_1:Int) (x0_2:Int) (σ:Aa):HJ (k+1) x0_0 x0_1 x0_2 σ=WQ k (BL k) x0_0 x0_1 x0_2 σ:=by
 simp only[HJ,BL,Ab]; kernel_rfl
theorem Qo (k n:Nat) (p0:Option Addr) (i1:Int) (i2:Int) (x6:Int) (σ:Aa):H0 k (n+1) p0 i1 i2 x6 σ=Pe k n (Bi k) (H0 k) p0 i1 i2 x6 σ:=by
 simp only[Bi,H0,Ab]; kernel_rfl
theorem Wk (k n:Nat) (p0:Option Addr) (i1:Int) (x5:Int) (σ:Aa):Hz k (n+1) p0 i1 x5 σ=TB k n (Br k) (Hz k) (H0 k) p0 i1 x5 σ:=by
 simp only[Br,Hz,H0,Ab]; kernel_rfl
theorem Zs (k:Nat) (x0:Option Addr) (x1:Int) (σ:Aa):Es (k+1) x0 x1 σ=WR k (Hz k) x0 x1 σ:=by
 simp only[Es,Hz,Ab]; kernel_rfl
theorem Qn (k:Nat) (x0:Option Addr) (x1:Int) (x2:Int) (x3_0:Int) (x3_1:Int) (x3_2:Int) (σ:Aa):Aw (k+1) x0 x1 x2 x3_0 x3_1 x3_2 σ=M4 k (CN k) (Dw k) (BV k) (EJ k) x0 x1 x2 x3_0 x3_1 x3_2 σ:=by
 simp only[CN,Dw,BV,EJ,Aw,Ab]; kernel_rfl
theorem QH (k:Nat) (x0:Option Addr) (x1_0:Int) (x1_1:Int) (x1_2:Int) (x2:Int) (σ:Aa):Dx (k+1) x0 x1_0 x1_1 x1_2 x2 σ=MW k (Aw k) (Es k) x0 x1_0 x1_1 x1_2 x2 σ:=by
 simp only[Dx,Aw,Es,Ab]; kernel_rfl
theorem Jg (k n:Nat) (p0:Option Addr) (i1:Int) (h2:Nat) (i3:Int) (p4:Option Addr) (c5:Nat) (c6:Nat) (x10:Int) (σ:Aa):Cv k (n+1) p0 i1 h2 i3 p4 c5 c6 x10 σ=Hb k n (Cv k) (Aw k) p0 i1 h2 i3 p4 c5 c6 x10 σ:=by
 simp only[Cv,Aw,Ab]; kernel_rfl
theorem Jf (k n:Nat) (p0:Option Addr) (i1:Int) (h2:Nat) (x8:Int) (σ:Aa):Cu k (n+1) p0 i1 h2 x8 σ=Ha k n (Br k) (BV k) (Bi k) (Cu k) (Cv k) (JB k) p0 i1 h2 x8 σ:=by
 simp only[Br,BV,Bi,Cu,Cv,JB,Ab]; kernel_rfl
theorem Qm (k:Nat) (x0:Option Addr) (x1_0:Int) (x1_1:Int) (x1_2:Int) (x2:Int) (σ:Aa):EZ (k+1) x0 x1_0 x1_1 x1_2 x2 σ=M3 k (Dx k) (Cu k) (Fs k) x0 x1_0 x1_1 x1_2 x2 σ:=by
 simp only[Dx,EZ,Cu,Fs,Ab]; kernel_rfl
theorem IJ (k n:Nat) (p0:Option Addr) (i1:Int) (p2:Option Addr) (c3:Nat) (c4:Nat) (x7:Int) (σ:Aa):CP k (n+1) p0 i1 p2 c3 c4 x7 σ=GD k n (CP k) p0 i1 p2 c3 c4 x7 σ:=by
 simp only[CP,Ab]; kernel_rfl
theorem IK (k n:Nat) (p0:Option Addr) (i1:Int) (p2:Option Addr) (c3:Nat) (c4:Nat) (x10:Int) (x11:Int) (σ:Aa):CQ k (n+1) p0 i1 p2 c3 c4 x10 x11 σ=GF k n (CQ k) p0 i1 p2 c3 c4 x10 x11 σ:=by
 simp only[CQ,Ab]; kernel_rfl
theorem PC (k:Nat) (x0:Option Addr) (x1:Int) (σ:Aa):DG (k+1) x0 x1 σ=Lx k (CP k) (CQ k) (Fq k) x0 x1 σ:=by
 simp only[DG,CP,CQ,Fq,Ab]; kernel_rfl
theorem GP (k:Nat) (x0:Option Addr × Nat × Nat) (x1:Value) (σ:Aa):BU (k+1) x0 x1 σ=Fm k (C4 k) x0 x1 σ:=by
 simp only[BU,C4,Ab]; kernel_rfl
theorem M8 (k:Nat) (x0_0:Int) (x0_1:Int) (σ:Aa):CF (k+1) x0_0 x0_1 σ=Kp k  x0_0 x0_1 σ:=by
 simp only[CF,Ab]; kernel_rfl
theorem ND (k:Nat) (x0:Option Addr) (x1:Int) (x2:Option Addr × Nat × Nat) (σ:Aa):EO (k+1) x0 x1 x2 σ=Ma k (B1 k) (Dy k) (Dr k) x0 x1 x2 σ:=by
 simp only[EO,B1,Dy,Dr,Ab]; kernel_rfl
theorem P1 (k:Nat) (x0:Option Addr) (x1:Int) (x2:Int) (σ:Aa):FW (k+1) x0 x1 x2 σ=Ob k (CJ k) x0 x1 x2 σ:=by
 simp only[CJ,FW,Ab]; kernel_rfl
theorem NF (k:Nat) (x0:Option Addr) (x1:Int) (σ:Aa):Dy (k+1) x0 x1 σ=Mb k (B1 k) x0 x1 σ:=by
 simp only[B1,Dy,Ab]; kernel_rfl
theorem P0 (k:Nat) (x0:Option Addr) (x1:Int) (σ:Aa):Dc (k+1) x0 x1 σ=Oa k (CJ k) x0 x1 σ:=by
 simp only[Dc,CJ,Ab]; kernel_rfl
theorem LD (k n:Nat) (p0:Option Addr) (c1:Nat) (c2:Nat) (i3:Int) (i4:Int) (x8:Int) (σ:Aa):DP k (n+1) p0 c1 c2 i3 i4 x8 σ=JQ k n (DP k) p0 c1 c2 i3 i4 x8 σ:=by
 simp only[DP,Ab]; kernel_rfl
theorem NH (k:Nat) (x0:Option Addr × Nat × Nat) (x1:Int) (σ:Aa):FX (k+1) x0 x1 σ=Md k (DP k) x0 x1 σ:=by
 simp only[FX,DP,Ab]; kernel_rfl
theorem IL (k n:Nat) (p0:Option Addr) (i1:Int) (x8:Int) (σ:Aa):Dn k (n+1) p0 i1 x8 σ=HC k n (Dn k) (Dc k) p0 i1 x8 σ:=by
 simp only[Dn,Dc,Ab]; kernel_rfl
theorem OK (k:Nat) (x0:Option Addr) (x1:Int) (x2:Int) (σ:Aa):Ft (k+1) x0 x1 x2 σ=MZ k (Dn k) (B1 k) x0 x1 x2 σ:=by
 simp only[Ft,Dn,B1,Ab]; kernel_rfl
theorem MC (k n:Nat) (p0:Option Addr) (i1:Int) (x8:Int) (σ:Aa):Dp k (n+1) p0 i1 x8 σ=Kt k n (Dp k) (Dc k) p0 i1 x8 σ:=by
 simp only[Dp,Dc,Ab]; kernel_rfl
theorem OL (k:Nat) (x0:Option Addr) (x1:Int) (x2:Int) (σ:Aa):CI (k+1) x0 x1 x2 σ=Na k (Dp k) (B1 k) x0 x1 x2 σ:=by
 simp only[CI,Dp,B1,Ab]; kernel_rfl
theorem QJ (k:Nat) (x0:Option Addr) (x1_0:Int) (x1_1:Int) (x1_2:Int) (x2:Int) (σ:Aa):Fs (k+1) x0 x1_0 x1_1 x1_2 x2 σ=MY k (Aw k) (Es k) x0 x1_0 x1_1 x1_2 x2 σ:=by
 simp only[Fs,Aw,Es,Ab]; kernel_rfl
theorem Px (k n:Nat) (p0:Option Addr) (c1:Nat) (c2:Nat) (x5:Option Addr × Nat × Nat) (x7:Int) (σ:Aa):GS k (n+1) p0 c1 c2 x5 x7 σ=NX k n (GS k) p0 c1 c2 x5 x7 σ:=by
 simp only[GS,Ab]; kernel_rfl
theorem Yb (k:Nat) (x0:Option Addr) (x1:Int) (σ:Aa):JB (k+1) x0 x1 σ=VM k (Hc k) (GS k) x0 x1 σ:=by
 simp only[Hc,JB,GS,Ab]; kernel_rfl
theorem J6 (k n:Nat) (p0:Option Addr) (x3:Option Addr × Nat × Nat) (x4:Int) (σ:Aa):Dq k (n+1) p0 x3 x4 σ=Hu k n (Br k) (HH k) (BV k) (Bi k) (Dq k) p0 x3 x4 σ:=by
 simp only[Br,HH,BV,Bi,Dq,Ab]; kernel_rfl
theorem QI (k:Nat) (x0:Option Addr) (σ:Aa):Fq (k+1) x0 σ=MX k (Dq k) x0 σ:=by
 simp only[Fq,Dq,Ab]; kernel_rfl
theorem EK (k n:Nat) (p0:Option Addr) (c1:Nat) (c2:Nat) (v3:Value) (i4:Int) (x8:Int) (σ:Aa):Bm k (n+1) p0 c1 c2 v3 i4 x8 σ=DR k n (HE k) (Bm k) p0 c1 c2 v3 i4 x8 σ:=by
 simp only[HE,Bm,Ab]; kernel_rfl
theorem HK (k:Nat) (x0:Option Addr × Nat × Nat) (x1:Value) (σ:Aa):C4 (k+1) x0 x1 σ=Gl k (Bm k) x0 x1 σ:=by
 simp only[C4,Bm,Ab]; kernel_rfl
theorem J7 (k:Nat) (x0:Option Addr × Nat × Nat) (x1:Value) (σ:Aa):Dr (k+1) x0 x1 σ=Hv k (Et k) x0 x1 σ:=by
 simp only[Dr,Et,Ab]; kernel_rfl
theorem LB (k:Nat) (x0:Int) (c0:Option Addr) (σ:Aa):C0 (k+1) x0 c0 σ=JO k (EP k) x0 c0 σ:=by
 simp only[C0,EP,Ab]; kernel_rfl
theorem NG (k:Nat) (x0:Option Addr) (x1:Int) (σ:Aa):EP (k+1) x0 x1 σ=Mc k (CJ k) x0 x1 σ:=by
 simp only[CJ,EP,Ab]; kernel_rfl
theorem ON (k:Nat) (x0:Option Addr) (σ:Aa):CJ (k+1) x0 σ=Nc k  x0 σ:=by
 simp only[CJ,Ab]; kernel_rfl
theorem G9 (k n:Nat) (p0:Option Addr) (c1:Nat) (c2:Nat) (v3:Value) (i4:Int) (x8:Int) (σ:Aa):CA k (n+1) p0 c1 c2 v3 i4 x8 σ=FB k n (M6 k) (CA k) p0 c1 c2 v3 i4 x8 σ:=by
 simp only[M6,CA,Ab]; kernel_rfl
theorem Lc (k:Nat) (x0:Option Addr × Nat × Nat) (x1:Value) (σ:Aa):Et (k+1) x0 x1 σ=Jm k (CA k) x0 x1 σ:=by
 simp only[Et,CA,Ab]; kernel_rfl
theorem Ng (k:Nat) (x1:Option Addr) (x2:Int) (σ:Aa):CU (k+1) x1 x2 σ=Lg k (AL k) (AN k) x1 x2 σ:=by
 simp only[AL,AN,CU,Ab]; kernel_rfl
theorem K6 (k:Nat) (x0:Option Addr) (x1:Option Addr × Nat × Nat) (σ:Aa):AN (k+1) x0 x1 σ=I8 k (Bs k) x0 x1 σ:=by
 simp only[Bs,AN,Ab]; kernel_rfl
theorem G3 (k n:Nat) (i0:Int) (i1:Int) (p2:Option Addr) (c3:Nat) (c4:Nat) (i5:Int) (x7:Option Addr × Nat × Nat) (x27:Int) (σ:Aa):BB k (n+1) i0 i1 p2 c3 c4 i5 x7 x27 σ=F8 k n (BB k) i0 i1 p2 c3 c4 i5 x7 x27 σ:=by
 simp only[BB,Ab]; kernel_rfl
theorem G2 (k n:Nat) (p0:Option Addr) (i1:Int) (i2:Int) (p3:Option Addr) (c4:Nat) (c5:Nat) (i6:Int) (x7:Option Addr × Nat × Nat) (x16:Int) (σ:Aa):BA k (n+1) p0 i1 i2 p3 c4 c5 i6 x7 x16 σ=F7 k n (BA k) (BB k) (EV k) p0 i1 i2 p3 c4 c5 i6 x7 x16 σ:=by
 simp only[BA,BB,EV,Ab]; kernel_rfl
theorem KX (k:Nat) (x0:Option Addr) (x1:Int) (x2:Int) (σ:Aa):AL (k+1) x0 x1 x2 σ=Jh k (Bp k) (BA k) x0 x1 x2 σ:=by
 simp only[Bp,AL,BA,Ab]; kernel_rfl
theorem Gm (k n:Nat) (p0:Option Addr) (h1:Nat) (x4:Int) (σ:Aa):BN k (n+1) p0 h1 x4 σ=Fk k n (BN k) (AU k) (Cl k) p0 h1 x4 σ:=by
 simp only[BN,AU,Cl,Ab]; kernel_rfl
theorem Ky (k:Nat) (x0:Option Addr) (σ:Aa):Bs (k+1) x0 σ=I6 k (BN k) x0 σ:=by
 simp only[Bs,BN,Ab]; kernel_rfl
theorem FO (k n:Nat) (p0:Option Addr) (i1:Int) (x3:Option Addr × Nat × Nat) (x10:Int) (σ:Aa):Bu k (n+1) p0 i1 x3 x10 σ=Fc k n (Bu k) (Co k) (E9 k) p0 i1 x3 x10 σ:=by
 simp only[Bu,Co,E9,Ab]; kernel_rfl
theorem JY (k:Nat) (x0:Option Addr) (σ:Aa):Bp (k+1) x0 σ=Ia k (Bu k) (AU k) x0 σ:=by
 simp only[Bp,Bu,AU,Ab]; kernel_rfl
theorem N8 (k:Nat) (x1:Option Addr) (x2:Int) (σ:Aa):Ds (k+1) x1 x2 σ=LV k (AL k) (AN k) (Bh k) x1 x2 σ:=by
 simp only[AL,AN,Ds,Bh,Ab]; kernel_rfl
theorem ER (k:Nat) (x0:Option Addr × Nat × Nat) (x1:Value) (σ:Aa):Bh (k+1) x0 x1 σ=Ed k (Ch k) x0 x1 σ:=by
 simp only[Bh,Ch,Ab]; kernel_rfl
theorem Lz (k:Nat) (x0_0:Int) (x0_1:Int) (x1_0:Int) (x1_1:Int) (σ:Aa):CT (k+1) x0_0 x0_1 x1_0 x1_1 σ=JH k  x0_0 x0_1 x1_0 x1_1 σ:=by
 simp only[CT,Ab]; kernel_rfl
theorem E6 (k n:Nat) (p0:Option Addr) (c1:Nat) (c2:Nat) (i3:Int) (v4:Value) (x7:Int) (x8:Int) (σ:Aa):AQ k (n+1) p0 c1 c2 i3 v4 x7 x8 σ=D5 k n (A9 k) (AQ k) p0 c1 c2 i3 v4 x7 x8 σ:=by
 simp only[A9,AQ,Ab]; kernel_rfl
theorem GB (k n:Nat) (p0:Option Addr) (c1:Nat) (c2:Nat) (i3:Int) (v4:Value) (i5:Int) (x7:Int) (x8:Int) (σ:Aa):Bl k (n+1) p0 c1 c2 i3 v4 i5 x7 x8 σ=Ff k n (Bl k) (Ax k) p0 c1 c2 i3 v4 i5 x7 x8 σ:=by
 simp only[Bl,Ax,Ab]; kernel_rfl
theorem E7 (k n:Nat) (p0:Option Addr) (c1:Nat) (c2:Nat) (i3:Int) (v4:Value) (x6:Int) (σ:Aa):AR k (n+1) p0 c1 c2 i3 v4 x6 σ=D6 k n (AR k) (Bl k) (Ax k) p0 c1 c2 i3 v4 x6 σ:=by
 simp only[AR,Bl,Ax,Ab]; kernel_rfl
theorem Fg (k:Nat) (x0:Option Addr × Nat × Nat) (x1:Int) (x2:Value) (σ:Aa):Ch (k+1) x0 x1 x2 σ=Eo k (A9 k) (AQ k) (AR k) x0 x1 x2 σ:=by
 simp only[A9,Ch,AQ,AR,Ab]; kernel_rfl
theorem Dg (k n:Nat) (p0:Option Addr) (c1:Nat) (c2:Nat) (i3:Int) (v4:Value) (x9:Int) (σ:Aa):AH k (n+1) p0 c1 c2 i3 v4 x9 σ=Cz k n (CZ k) (AH k) p0 c1 c2 i3 v4 x9 σ:=by
 simp only[CZ,AH,Ab]; kernel_rfl
theorem Df (k n:Nat) (p0:Option Addr) (c1:Nat) (c2:Nat) (i3:Int) (i4:Int) (v5:Value) (x8:Int) (σ:Aa):AG k (n+1) p0 c1 c2 i3 i4 v5 x8 σ=Cy k n (AG k) (AH k) p0 c1 c2 i3 i4 v5 x8 σ:=by
 simp only[AG,AH,Ab]; kernel_rfl
theorem DQ (k:Nat) (x0:Option Addr × Nat × Nat) (x1:Int) (x2:Int) (x3:Value) (σ:Aa):A9 (k+1) x0 x1 x2 x3 σ=CO k (AG k) x0 x1 x2 x3 σ:=by
 simp only[A9,AG,Ab]; kernel_rfl
theorem KB (k n:Nat) (p0:Option Addr) (c1:Nat) (c2:Nat) (i3:Int) (v4:Value) (x10:Int) (x11:Int) (σ:Aa):B4 k (n+1) p0 c1 c2 i3 v4 x10 x11 σ=GL k n (CZ k) (B4 k) p0 c1 c2 i3 v4 x10 x11 σ:=by
 simp only[CZ,B4,Ab]; kernel_rfl
theorem Gn (k n:Nat) (p0:Option Addr) (c1:Nat) (c2:Nat) (i3:Int) (x13:Int) (σ:Aa):B5 k (n+1) p0 c1 c2 i3 x13 σ=EH k n (B5 k) p0 c1 c2 i3 x13 σ:=by
 simp only[B5,Ab]; kernel_rfl
theorem KC (k n:Nat) (p0:Option Addr) (c1:Nat) (c2:Nat) (i3:Int) (v4:Value) (x14:Int) (x15:Int) (σ:Aa):B6 k (n+1) p0 c1 c2 i3 v4 x14 x15 σ=GM k n (CZ k) (B6 k) p0 c1 c2 i3 v4 x14 x15 σ:=by
 simp only[CZ,B6,Ab]; kernel_rfl
theorem Gp (k n:Nat) (p0:Option Addr) (c1:Nat) (c2:Nat) (i3:Int) (x17:Int) (σ:Aa):B7 k (n+1) p0 c1 c2 i3 x17 σ=EI k n (B7 k) p0 c1 c2 i3 x17 σ:=by
 simp only[B7,Ab]; kernel_rfl
theorem KD (k n:Nat) (p0:Option Addr) (c1:Nat) (c2:Nat) (v3:Value) (i4:Int) (x20:Int) (x21:Int) (σ:Aa):B8 k (n+1) p0 c1 c2 v3 i4 x20 x21 σ=GN k n (CZ k) (B8 k) p0 c1 c2 v3 i4 x20 x21 σ:=by
 simp only[CZ,B8,Ab]; kernel_rfl
theorem LF (k:Nat) (x0:Option Addr × Nat × Nat) (x1:Int) (x2:Int) (x3:Int) (x4:Value) (σ:Aa):Ax (k+1) x0 x1 x2 x3 x4 σ=HD k (Cg k) (Ax k) (B4 k) (B5 k) (B6 k) (B7 k) (B8 k) x0 x1 x2 x3 x4 σ:=by
 simp only[Cg,Ax,B4,B5,B6,B7,B8,Ab]; kernel_rfl
theorem Ln (k n:Nat) (p0:Option Addr) (c1:Nat) (c2:Nat) (i3:Int) (v4:Value) (x10:Int) (x11:Int) (σ:Aa):BM k (n+1) p0 c1 c2 i3 v4 x10 x11 σ=Hq k n (BM k) (Bv k) p0 c1 c2 i3 v4 x10 x11 σ:=by
 simp only[BM,Bv,Ab]; kernel_rfl
theorem MJ (k:Nat) (x0:Option Addr × Nat × Nat) (x1:Int) (x2:Int) (x3:Int) (x4:Value) (σ:Aa):Cg (k+1) x0 x1 x2 x3 x4 σ=IB k (BM k) (Bv k) x0 x1 x2 x3 x4 σ:=by
 simp only[Cg,BM,Bv,Ab]; kernel_rfl
theorem Ge (k n:Nat) (p0:Option Addr) (c1:Nat) (c2:Nat) (i3:Int) (i4:Int) (i5:Int) (x10:Int) (σ:Aa):B3 k (n+1) p0 c1 c2 i3 i4 i5 x10 σ=E3 k n (B3 k) p0 c1 c2 i3 i4 i5 x10 σ:=by
 simp only[B3,Ab]; kernel_rfl
theorem Lo (k:Nat) (x0:Option Addr × Nat × Nat) (x1:Int) (x2:Int) (x3:Int) (x4:Value) (σ:Aa):Bv (k+1) x0 x1 x2 x3 x4 σ=Hr k (B3 k) x0 x1 x2 x3 x4 σ:=by
 simp only[Bv,B3,Ab]; kernel_rfl
theorem NA (k:Nat) (x1:Option Addr) (x2:Int) (σ:Aa):Du (k+1) x1 x2 σ=LX k (AL k) (AN k) x1 x2 σ:=by
 simp only[AL,AN,Du,Ab]; kernel_rfl
theorem N9 (k:Nat) (x1:Option Addr) (x2:Int) (σ:Aa):Dt (k+1) x1 x2 σ=LW k (Bw k) x1 x2 σ:=by
 simp only[Bw,Dt,Ab]; kernel_rfl
theorem JZ (k:Nat) (x0:Option Addr) (x1:Option Addr) (x2:Int) (σ:Aa):Bw (k+1) x0 x1 x2 σ=Ib k (Bs k) (DD k) (De k) x0 x1 x2 σ:=by
 simp only[Bs,Bw,DD,De,Ab]; kernel_rfl
theorem Po (k:Nat) (x0:Option Addr) (x1:Int) (σ:Aa):DD (k+1) x0 x1 σ=NO k  x0 x1 σ:=by
 simp only[DD,Ab]; kernel_rfl
theorem OB (k:Nat) (x0:Option Addr) (x1:Int) (σ:Aa):De (k+1) x0 x1 σ=MP k  x0 x1 σ:=by
 simp only[De,Ab]; kernel_rfl
theorem Nh (k:Nat) (x1:Option Addr) (x2:Int) (σ:Aa):CV (k+1) x1 x2 σ=Lh k (Bw k) (CE k) (DD k) (De k) x1 x2 σ:=by
 simp only[Bw,CE,DD,De,CV,Ab]; kernel_rfl
theorem G5 (k n:Nat) (p0:Option Addr) (c1:Nat) (c2:Nat) (x8:Int) (σ:Aa):BZ k (n+1) p0 c1 c2 x8 σ=FA k n (BZ k) p0 c1 c2 x8 σ:=by
 simp only[BZ,Ab]; kernel_rfl
theorem J5 (k n:Nat) (p0:Option Addr) (h1:Nat) (i2:Int) (p3:Option Addr) (c4:Nat) (c5:Nat) (x7:Int) (σ:Aa):BX k (n+1) p0 h1 i2 p3 c4 c5 x7 σ=Ht k n (BX k) (BZ k) p0 h1 i2 p3 c4 c5 x7 σ:=by
 simp only[BX,BZ,Ab]; kernel_rfl
theorem G4 (k n:Nat) (p0:Option Addr) (h1:Nat) (p2:Option Addr) (c3:Nat) (c4:Nat) (i5:Int) (x13:Int) (σ:Aa):BE k (n+1) p0 h1 p2 c3 c4 i5 x13 σ=F9 k n (BE k) (BX k) (Cm k) p0 h1 p2 c3 c4 i5 x13 σ:=by
 simp only[BE,BX,Cm,Ab]; kernel_rfl
theorem KY (k:Nat) (x0:Option Addr) (σ:Aa):CE (k+1) x0 σ=Ji k (Bs k) (Bp k) (BE k) x0 σ:=by
 simp only[Bs,Bp,CE,BE,Ab]; kernel_rfl
theorem V1 (k:Nat) (x0:Option Nat) (σ:Aa):IG (k+1) x0 σ=XS [.map x0] σ:=by
 simp only[IG,Ab]; kernel_rfl
theorem V8 (k:Nat) (x0:Int) (x1:Int) (x2:Option Addr × Nat × Nat) (x3_0:Int) (x3_1:Int) (x3_2:Int) (σ:Aa):fn P (XK Kn.b) H k 7 [.int .i64 x0,.int .i64 x1,.slice x2.1 x2.2.1 x2.2.2,.agg #[.int .i64 x3_0,.int .i64 x3_1,.int .i64 x3_2]] σ=Js k x0 x1 x2 x3_0 x3_1 x3_2 σ:=by
 simp only[Js,Ab]
theorem MI (k:Nat) (x0:Option Addr) (x1:Int) (σ:Aa):Cf k (.func (.func 99) #[] #[]) [.pointer x0,.int .i64 x1] σ=BQ k x0 x1 σ:=by
 simp only[Cf,BQ,Ab]; kernel_rfl
theorem OA (k:Nat) (x0_0:Int) (x0_1:Int) (σ:Aa):HE k (.func (.func 166) #[] #[]) [.agg #[.int .i64 x0_0,.int .i64 x0_1]] σ=CF k x0_0 x0_1 σ:=by
 simp only[HE,CF,Ab]; kernel_rfl
theorem O9 (k:Nat) (x0:Int) (c0:Option Addr) (σ:Aa):M6 k (.func (.func 179) #[] #[.pointer c0]) [.int .i64 x0] σ=C0 k x0 c0 σ:=by
 simp only[M6,C0,Ab]; kernel_rfl
theorem Nf (k:Nat) (x0_0:Int) (x0_1:Int) (x1_0:Int) (x1_1:Int) (σ:Aa):CZ k (.func (.func 206) #[] #[]) [.agg #[.int .i64 x0_0,.int .i64 x0_1],.agg #[.int .i64 x1_0,.int .i64 x1_1]] σ=CT k x0_0 x0_1 x1_0 x1_1 σ:=by
 simp only[CZ,CT,Ab]; kernel_rfl
end
theorem XV [AK] (k:Nat) (σ:Aa):@Fj _ ⟨true⟩ (k+1) σ=some (.bool true,σ):=by
 simp only[Fj,Ab]; kernel_rfl
theorem an (a:Addr):SE P Jw (.pointer (some a)) (.pointer none)=some false∧SE P Jw (.pointer none) (.pointer none)=some true∧SE P JS (.pointer (some a)) (.pointer none)=some false∧SE P JS (.pointer none) (.pointer none)=some true∧SE P Hh (.pointer (some a)) (.pointer none)=some false∧SE P Hh (.pointer none) (.pointer none)=some true∧SE P Fv (.pointer (some a)) (.pointer none)=some false∧SE P Fv (.pointer none) (.pointer none)=some true∧SE P LM (.pointer (some a)) (.pointer none)=some false∧SE P LM (.pointer none) (.pointer none)=some true:=by
 refine ⟨?_, ?_, ?_, ?_, ?_, ?_, ?_, ?_, ?_, ?_⟩ <;> kernel_rfl
abbrev V6:FuncId:=7
abbrev LG:FuncId:=99
abbrev NI:FuncId:=166
abbrev Ns:FuncId:=206
section
local instance sY:Kn:=⟨false⟩
variable [AK]
theorem U3 (k:Nat)  (σ:Aa):Fj (k+1)  σ=VG k (AM k) (GO k) (Cl k) (DF k) (Cn k) (G7 k)  σ:=by
 simp only[AM,GO,Cl,DF,Cn,G7,Fj,Ab]; kernel_rfl
end
end Go.Proofs.YtlaplcglpnlieaaGreat
