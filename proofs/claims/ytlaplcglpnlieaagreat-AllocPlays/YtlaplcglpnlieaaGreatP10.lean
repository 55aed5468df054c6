/-
 PRINTED BY A PROGRAM OF THIS SESSION'S OWN (gen2.py): the unfolding equations.
-/
import Derived.Test.YtlaplcglpnlieaaGreatP9
set_option maxRecDepth 100000
set_option linter.unusedVariables false
set_option linter.unusedSimpArgs false
set_option linter.unusedSectionVars false
namespace Go.Proofs.YtlaplcglpnlieaaGreat
open Go Go.AX
section
variable [Bb] [Kn]
theorem Jo (k n:Nat) (p0:Option Addr) (c1:Nat) (c2:Nat) (x9:Option Addr) (x11:Option Addr) (x13:Option Addr) (x15:Option Addr) (x17:Int) (σ:Aa):CG k (n+1) p0 c1 c2 x9 x11 x13 x15 x17 σ=Im k n (Fy k) (Hi k) (CG k) (Hx k) (Mj k) (GK k) (F5 k) p0 c1 c2 x9 x11 x13 x15 x17 σ:=by
 simp only[Fy,Hi,CG,Hx,Mj,GK,F5,Ab]; kernel_rfl
theorem We (k:Nat) (x0:Int) (x1:Int) (x2:Int) (x3:Option Addr × Nat × Nat) (σ:Aa):K9 (k+1) x0 x1 x2 x3 σ=RJ k (Hb k) (Hv k) (Mi k) (CG k) (FL k) (Qp k) (MU k) (Kl k) (Kp k) x0 x1 x2 x3 σ:=by
 simp only[Hb,Hv,Mi,K9,CG,FL,Qp,MU,Kl,Kp,Ab]; kernel_rfl
theorem TI (k:Nat) (x0:Int) (σ:Aa):Hv (k+1) x0 σ=UZ k (N0 k) x0 σ:=by
 simp only[Hv,N0,Ab]; kernel_rfl
theorem Xj (k:Nat) (x0:Int) (σ:Aa):Kl (k+1) x0 σ=WS k  x0 σ:=by
 simp only[Kl,Ab]; kernel_rfl
theorem WW (k:Nat) (x0:Option Addr) (σ:Aa):Hi (k+1) x0 σ=Tg k (Ar k) (JP k) (Ie k) (EK k) (Ig k) x0 σ:=by
 simp only[Hi,Ar,JP,Ie,EK,Ig,Ab]; kernel_rfl
theorem MV (k n:Nat) (p0:Option Addr) (h1:Nat) (x4:Int) (σ:Aa):Ek k (n+1) p0 h1 x4 σ=KY k n (Ek k) p0 h1 x4 σ:=by
 simp only[Ek,Ab]; kernel_rfl
theorem Wg (k:Nat) (x0:Option Addr) (σ:Aa):GK (k+1) x0 σ=RL k (Ek k) (Ai k) x0 σ:=by
 simp only[GK,Ek,Ai,Ab]; kernel_rfl
theorem Sl (k n:Nat) (p0:Option Addr) (p1:Option Addr) (x5:Int) (σ:Aa):I6 k (n+1) p0 p1 x5 σ=QB k n (Ec k) (CX k) (B4 k) (B5 k) (C5 k) (I6 k) (MT k) (K8 k) (JQ k) (Ay k) (FV k) (Fm k) (Da k) (B3 k) (AL k) p0 p1 x5 σ:=by
 simp only[Ec,CX,B4,B5,C5,I6,MT,K8,JQ,Ay,FV,Fm,Da,B3,AL,Ab]; kernel_rfl
theorem Sm (k n:Nat) (p0:Option Addr) (p1:Option Addr) (x6:Int) (σ:Aa):Gq k (n+1) p0 p1 x6 σ=QC k n (KS k) (Gq k) (Ay k) (AL k) p0 p1 x6 σ:=by
 simp only[KS,Gq,Ay,AL,Ab]; kernel_rfl
theorem Sn (k n:Nat) (p0:Option Addr) (p1:Option Addr) (x7:Int) (σ:Aa):I7 k (n+1) p0 p1 x7 σ=QD k n (Ia k) (I7 k) (Hy k) (CP k) p0 p1 x7 σ:=by
 simp only[Ia,I7,Hy,CP,Ab]; kernel_rfl
theorem di (k:Nat) (x0:Option Addr) (x1:Option Addr) (σ:Aa):Mi (k+1) x0 x1 σ=ZB k (Hu k) (GA k) (AF k) (JN k) (I6 k) (Gq k) (I7 k) (K8 k) (GI k) (CP k) (Ay k) (IQ k) x0 x1 σ:=by
 simp only[Hu,GA,AF,JN,Mi,I6,Gq,I7,K8,GI,CP,Ay,IQ,Ab]; kernel_rfl
theorem VT (k:Nat) (x0_0:Int) (x0_1:Int) (x0_2:Int) (σ:Aa):FT (k+1) x0_0 x0_1 x0_2 σ=Vb k (FR k) x0_0 x0_1 x0_2 σ:=by
 simp only[FR,FT,Ab]; kernel_rfl
theorem LI (k:Nat) (x0:Option Addr) (x1_0:Int) (x1_1:Int) (x1_2:Int) (σ:Aa):B6 (k+1) x0 x1_0 x1_1 x1_2 σ=JB k (AE k) (Ea k) (Cy k) (C4 k) (B5 k) (FR k) (FT k) x0 x1_0 x1_1 x1_2 σ:=by
 simp only[B6,AE,Ea,Cy,C4,B5,FR,FT,Ab]; kernel_rfl
theorem Lh (k:Nat) (x0:Option Addr) (σ:Aa):AF (k+1) x0 σ=Kt k (Ar k) x0 σ:=by
 simp only[AF,Ar,Ab]; kernel_rfl
theorem LM (k:Nat) (x0:Option Addr) (x1:Int) (σ:Aa):C5 (k+1) x0 x1 σ=Ln k (AF k) x0 x1 σ:=by
 simp only[AF,C5,Ab]; kernel_rfl
theorem VS (k:Nat) (x0_0:Int) (x0_1:Int) (x0_2:Int) (σ:Aa):FR (k+1) x0_0 x0_1 x0_2 σ=Va k  x0_0 x0_1 x0_2 σ:=by
 simp only[FR,Ab]; kernel_rfl
theorem Rq (k:Nat) (x0:Option Addr) (σ:Aa):DY (k+1) x0 σ=MM k (AE k) x0 σ:=by
 simp only[DY,AE,Ab]; kernel_rfl
theorem Wc (k:Nat) (x0:Option Addr) (σ:Aa):GA (k+1) x0 σ=RF k (Ar k) x0 σ:=by
 simp only[GA,Ar,Ab]; kernel_rfl
theorem WX (k:Nat) (x0:Option Addr) (x1:Int) (σ:Aa):FP (k+1) x0 x1 σ=Th k (Ca k) x0 x1 σ:=by
 simp only[FP,Ca,Ab]; kernel_rfl
theorem Qm (k:Nat) (x0:Option Addr) (x1:Int) (σ:Aa):Hk (k+1) x0 x1 σ=Ov k (Ca k) (FU k) x0 x1 σ:=by
 simp only[Hk,Ca,FU,Ab]; kernel_rfl
theorem IM (k:Nat) (x0:Option Addr) (x1:Int) (σ:Aa):B5 (k+1) x0 x1 σ=IG k (AF k) x0 x1 σ:=by
 simp only[AF,B5,Ab]; kernel_rfl
theorem JM (k n:Nat) (h0:Nat) (c1:Nat) (i2:Int) (x10:Int) (σ:Aa):D7 k (n+1) h0 c1 i2 x10 σ=IF k n (D7 k) h0 c1 i2 x10 σ:=by
 simp only[D7,Ab]; kernel_rfl
theorem JL (k n:Nat) (p0:Option Addr) (h1:Nat) (c2:Nat) (p3:Option Addr) (c4:Nat) (c5:Nat) (i6:Int) (x20:Int) (σ:Aa):D6 k (n+1) p0 h1 c2 p3 c4 c5 i6 x20 σ=IE k n (D6 k) (D7 k) (BL k) p0 h1 c2 p3 c4 c5 i6 x20 σ:=by
 simp only[D6,D7,BL,Ab]; kernel_rfl
theorem IL (k:Nat) (x0:Option Addr) (x1:Int) (σ:Aa):CX (k+1) x0 x1 σ=ID k (D6 k) (B4 k) (Cl k) x0 x1 σ:=by
 simp only[CX,D6,B4,Cl,Ab]; kernel_rfl
theorem Se (k:Nat) (x0:Option Addr) (x1:Option Addr) (σ:Aa):Fy (k+1) x0 x1 σ=NI k (AE k) (AF k) x0 x1 σ:=by
 simp only[Fy,AE,AF,Ab]; kernel_rfl
theorem bt (k:Nat) (x0:Option Addr × Nat × Nat) (σ:Aa):MU (k+1) x0 σ=Y7 k  x0 σ:=by
 simp only[MU,Ab]; kernel_rfl
theorem eZ (k:Nat) (x0:Int) (σ:Aa):Qp (k+1) x0 σ=cz k  x0 σ:=by
 simp only[Qp,Ab]; kernel_rfl
theorem Sj (k:Nat) (x0:Option Addr) (x1:Int) (x2:Int) (σ:Aa):Hb (k+1) x0 x1 x2 σ=Tf k (Ea k) (AF k) x0 x1 x2 σ:=by
 simp only[Hb,Ea,AF,Ab]; kernel_rfl
theorem Xk (k:Nat) (x0:Option Addr) (x1:Int) (x2:Int) (σ:Aa):Kp (k+1) x0 x1 x2 σ=WT k (Ai k) x0 x1 x2 σ:=by
 simp only[Ai,Kp,Ab]; kernel_rfl
theorem Sr (k:Nat) (x0:Option Addr) (x1:Option Addr) (σ:Aa):F5 (k+1) x0 x1 σ=NN k (Ai k) (AM k) x0 x1 σ:=by
 simp only[Ai,F5,AM,Ab]; kernel_rfl
theorem dm (k:Nat) (x0:Option Addr) (x1:Option Addr) (x2:Option Addr) (x3:Option Addr) (x4_0:Int) (x4_1:Int) (x4_2:Int) (x4_3:Int) (x4_4:Int) (x4_5:Int) (σ:Aa):Mj (k+1) x0 x1 x2 x3 x4_0 x4_1 x4_2 x4_3 x4_4 x4_5 σ=ZD k (B6 k) (Fz k) (C3 k) (Ed k) (C4 k) (Gk k) (Hj k) (Qq k) (Df k) (FW k) (DJ k) (E8 k) (Fo k) (E5 k) (F6 k) x0 x1 x2 x3 x4_0 x4_1 x4_2 x4_3 x4_4 x4_5 σ:=by
 simp only[B6,Fz,C3,Ed,C4,Gk,Hj,Qq,Mj,Df,FW,DJ,E8,Fo,E5,F6,Ab]; kernel_rfl
theorem Zd (k:Nat) (x0:Option Addr) (x1:Option Addr) (σ:Aa):Hx (k+1) x0 x1 σ=VP k (DY k) (Fe k) (F0 k) (Fg k) (Fh k) (F7 k) x0 x1 σ:=by
 simp only[DY,Fe,F0,Hx,Fg,Fh,F7,Ab]; kernel_rfl
theorem Qk (k:Nat) (x0:Option Addr) (x1:Int) (x2:Int) (σ:Aa):C3 (k+1) x0 x1 x2 σ=Ot k (Ew k) x0 x1 x2 σ:=by
 simp only[C3,Ew,Ab]; kernel_rfl
theorem Ql (k:Nat) (x0:Option Addr) (x1:Int) (x2_0:Int) (x2_1:Int) (x2_2:Int) (σ:Aa):C4 (k+1) x0 x1 x2_0 x2_1 x2_2 σ=Ou k (GD k) (Ar k) (FR k) (FT k) (Jn k) (CS k) x0 x1 x2_0 x2_1 x2_2 σ:=by
 simp only[C4,GD,Ar,FR,FT,Jn,CS,Ab]; kernel_rfl
theorem Ky (k n:Nat) (p0:Option Addr) (h1:Nat) (h2:Nat) (p3:Option Addr) (c4:Nat) (c5:Nat) (i6:Int) (x21:Int) (σ:Aa):Dr k (n+1) p0 h1 h2 p3 c4 c5 i6 x21 σ=Jy k n (CO k) (Dr k) (BL k) p0 h1 h2 p3 c4 c5 i6 x21 σ:=by
 simp only[CO,Dr,BL,Ab]; kernel_rfl
theorem J3 (k:Nat) (x0:Option Addr) (x1:Int) (σ:Aa):Ec (k+1) x0 x1 σ=JF k (CO k) (Dr k) (B4 k) (Cl k) x0 x1 σ:=by
 simp only[Ec,CO,Dr,B4,Cl,Ab]; kernel_rfl
theorem Ym (k:Nat) (x0:Option Addr) (x1:Int) (σ:Aa):GC (k+1) x0 x1 σ=Uj k (Ar k) x0 x1 σ:=by
 simp only[GC,Ar,Ab]; kernel_rfl
theorem Vh (k:Nat) (x0:Option Addr) (x1:Int) (σ:Aa):Gj (k+1) x0 x1 σ=QL k (Ar k) x0 x1 σ:=by
 simp only[Gj,Ar,Ab]; kernel_rfl
theorem ZJ (k:Nat) (x0:Option Addr) (x1:Int) (σ:Aa):Ia (k+1) x0 x1 σ=WR k (Ar k) x0 x1 σ:=by
 simp only[Ia,Ar,Ab]; kernel_rfl
theorem My (k:Nat) (x0:Option Addr) (x1:Int) (x2:Int) (x3:Int) (σ:Aa):DI (k+1) x0 x1 x2 x3 σ=Ku k (Ew k) x0 x1 x2 x3 σ:=by
 simp only[DI,Ew,Ab]; kernel_rfl
theorem QT (k:Nat) (x0:Option Addr) (x1:Int) (σ:Aa):Ed (k+1) x0 x1 σ=Py k (Ca k) (BL k) (GG k) (CS k) x0 x1 σ:=by
 simp only[Ed,Ca,BL,GG,CS,Ab]; kernel_rfl
theorem Mz (k n:Nat) (p0:Option Addr) (i1:Int) (x6:Int) (σ:Aa):ED k (n+1) p0 i1 x6 σ=Kv k n (ED k) p0 i1 x6 σ:=by
 simp only[ED,Ab]; kernel_rfl
theorem Vi (k:Nat) (x0:Option Addr) (x1:Int) (σ:Aa):Gk (k+1) x0 x1 σ=QM k (B4 k) (ED k) (GF k) (Dy k) x0 x1 σ:=by
 simp only[B4,Gk,ED,GF,Dy,Ab]; kernel_rfl
theorem OE (k n:Nat) (p0:Option Addr) (c1:Nat) (c2:Nat) (p3:Option Addr) (c4:Nat) (c5:Nat) (x5:Int) (σ:Aa):EO k (n+1) p0 c1 c2 p3 c4 c5 x5 σ=M9 k n (EO k) p0 c1 c2 p3 c4 c5 x5 σ:=by
 simp only[EO,Ab]; kernel_rfl
theorem Yp (k:Nat) (x0:Option Addr × Nat × Nat) (x1:Option Addr × Nat × Nat) (σ:Aa):JQ (k+1) x0 x1 σ=Ul k (EO k) x0 x1 σ:=by
 simp only[JQ,EO,Ab]; kernel_rfl
theorem YG (k:Nat) (x0:Int) (x1:Int) (σ:Aa):N0 (k+1) x0 x1 σ=YZ k (EX k) x0 x1 σ:=by
 simp only[N0,EX,Ab]; kernel_rfl
theorem MC (k:Nat) (x0:Option Addr) (σ:Aa):Ar (k+1) x0 σ=Mf k  x0 σ:=by
 simp only[Ar,Ab]; kernel_rfl
theorem QI (k:Nat) (x0:Option Addr × Nat × Nat) (σ:Aa):EK (k+1) x0 σ=Mt k  x0 σ:=by
 simp only[EK,Ab]; kernel_rfl
theorem Wt (k:Nat) (x0:Option Addr × Nat × Nat) (σ:Aa):Ig (k+1) x0 σ=Sb k  x0 σ:=by
 simp only[Ig,Ab]; kernel_rfl
theorem Ws (k:Nat) (x0:Option Addr) (σ:Aa):Ie (k+1) x0 σ=Sa k (BJ k) (G8 k) x0 σ:=by
 simp only[Ie,BJ,G8,Ab]; kernel_rfl
theorem Qr (k:Nat) (x0:Option Addr) (σ:Aa):Ai (k+1) x0 σ=Oy k  x0 σ:=by
 simp only[Ai,Ab]; kernel_rfl
theorem Wf (k:Nat) (x0:Option Addr) (x1:Int) (x2:Int) (σ:Aa):Df (k+1) x0 x1 x2 σ=RK k (Ai k) (C9 k) (GV k) x0 x1 x2 σ:=by
 simp only[Df,Ai,C9,GV,Ab]; kernel_rfl
theorem Kj (k n:Nat) (p0:Option Addr) (i1:Int) (i2:Int) (x9:Int) (σ:Aa):C7 k (n+1) p0 i1 i2 x9 σ=HW k n (C7 k) p0 i1 i2 x9 σ:=by
 simp only[C7,Ab]; kernel_rfl
theorem Kk (k n:Nat) (p0:Option Addr) (i1:Int) (i2:Int) (i3:Int) (x10:Int) (σ:Aa):C8 k (n+1) p0 i1 i2 i3 x10 σ=HX k n (C8 k) p0 i1 i2 i3 x10 σ:=by
 simp only[C8,Ab]; kernel_rfl
theorem Sp (k:Nat) (x0:Option Addr) (x1:Int) (x2:Int) (x3:Int) (σ:Aa):Ez (k+1) x0 x1 x2 x3 σ=NL k (C7 k) (C8 k) (Ai k) (C9 k) (GV k) x0 x1 x2 x3 σ:=by
 simp only[Ez,C7,C8,Ai,C9,GV,Ab]; kernel_rfl
theorem LO (k n:Nat) (p0:Option Addr) (i1:Int) (i2:Int) (x6:Int) (σ:Aa):Dz k (n+1) p0 i1 i2 x6 σ=JH k n (Dz k) p0 i1 i2 x6 σ:=by
 simp only[Dz,Ab]; kernel_rfl
theorem Ux (k:Nat) (x0:Option Addr) (x1:Int) (σ:Aa):E8 (k+1) x0 x1 σ=Qg k (Ai k) (Da k) (Dz k) (Co k) (C9 k) x0 x1 σ:=by
 simp only[Ai,Da,E8,Dz,Co,C9,Ab]; kernel_rfl
theorem NU (k n:Nat) (p0:Option Addr) (i1:Int) (i2:Int) (x8:Int) (σ:Aa):F1 k (n+1) p0 i1 i2 x8 σ=L7 k n (F1 k) p0 i1 i2 x8 σ:=by
 simp only[F1,Ab]; kernel_rfl
theorem WY (k:Nat) (x0:Option Addr) (x1:Int) (x2:Int) (σ:Aa):Hj (k+1) x0 x1 x2 σ=Ti k (F1 k) (GF k) (Dy k) (HF k) x0 x1 x2 σ:=by
 simp only[Hj,F1,GF,Dy,HF,Ab]; kernel_rfl
theorem MZ (k n:Nat) (p0:Option Addr) (i1:Int) (i2:Int) (i3:Int) (x8:Int) (σ:Aa):Eo k (n+1) p0 i1 i2 i3 x8 σ=Lc k n (Eo k) p0 i1 i2 i3 x8 σ:=by
 simp only[Eo,Ab]; kernel_rfl
theorem Wl (k:Nat) (x0:Option Addr) (x1:Int) (x2:Int) (σ:Aa):Fo (k+1) x0 x1 x2 σ=RS k (Ai k) (Eo k) (Co k) (C9 k) (GV k) x0 x1 x2 σ:=by
 simp only[Ai,Fo,Eo,Co,C9,GV,Ab]; kernel_rfl
theorem Wk (k:Nat) (x0:Option Addr) (x1:Int) (x2_0:Int) (x2_1:Int) (x2_2:Int) (σ:Aa):DJ (k+1) x0 x1 x2_0 x2_1 x2_2 σ=RR k (Ai k) (IU k) (HQ k) (GU k) x0 x1 x2_0 x2_1 x2_2 σ:=by
 simp only[Ai,DJ,IU,HQ,GU,Ab]; kernel_rfl
theorem Xe (k:Nat) (x0:Option Addr) (x1:Int) (σ:Aa):FW (k+1) x0 x1 σ=Tn k (AA k) (JS k) (BI k) x0 x1 σ:=by
 simp only[AA,FW,JS,BI,Ab]; kernel_rfl
theorem Vk (k:Nat) (x0:Option Addr) (σ:Aa):Ay (k+1) x0 σ=QO k (Ai k) x0 σ:=by
 simp only[Ay,Ai,Ab]; kernel_rfl
theorem Vj (k:Nat) (x0:Option Addr) (σ:Aa):CP (k+1) x0 σ=QN k (Ai k) x0 σ:=by
 simp only[CP,Ai,Ab]; kernel_rfl
theorem OC (k n:Nat) (p0:Option Addr) (p1:Option Addr) (c2:Nat) (c3:Nat) (i4:Int) (x3:Int) (x9:Int) (σ:Aa):EN k (n+1) p0 p1 c2 c3 i4 x3 x9 σ=M7 k n (EN k) (BL k) p0 p1 c2 c3 i4 x3 x9 σ:=by
 simp only[EN,BL,Ab]; kernel_rfl
theorem Yl (k:Nat) (x0:Option Addr) (σ:Aa):JN (k+1) x0 σ=Ui k (Hu k) (EN k) x0 σ:=by
 simp only[Hu,JN,EN,Ab]; kernel_rfl
theorem NY (k n:Nat) (p0:Option Addr) (x3:Int) (x4:Int) (σ:Aa):F4 k (n+1) p0 x3 x4 σ=LB k n (Ai k) (F4 k) (BG k) p0 x3 x4 σ:=by
 simp only[Ai,F4,BG,Ab]; kernel_rfl
theorem Xf (k:Nat) (x0:Option Addr) (σ:Aa):IQ (k+1) x0 σ=To k (F4 k) x0 σ:=by
 simp only[IQ,F4,Ab]; kernel_rfl
theorem So (k n:Nat) (p0:Option Addr) (c1:Nat) (c2:Nat) (p3:Option Addr) (c4:Nat) (c5:Nat) (x5:Int) (σ:Aa):Hw k (n+1) p0 c1 c2 p3 c4 c5 x5 σ=QE k n (Hw k) p0 c1 c2 p3 c4 c5 x5 σ:=by
 simp only[Hw,Ab]; kernel_rfl
theorem dk (k:Nat) (x0:Option Addr × Nat × Nat) (x1:Option Addr × Nat × Nat) (σ:Aa):K8 (k+1) x0 x1 σ=ZC k (Hw k) x0 x1 σ:=by
 simp only[K8,Hw,Ab]; kernel_rfl
theorem Zb (k:Nat) (x0:Option Addr) (σ:Aa):Hu (k+1) x0 σ=VN k (Ds k) (Ar k) x0 σ:=by
 simp only[Hu,Ds,Ar,Ab]; kernel_rfl
theorem OG (k n:Nat) (p0:Option Addr) (x3:Option Addr × Nat × Nat) (x4:Int) (σ:Aa):Gl k (n+1) p0 x3 x4 σ=MA k n (Gl k) (Ai k) p0 x3 x4 σ:=by
 simp only[Gl,Ai,Ab]; kernel_rfl
theorem Yq (k:Nat) (x0:Option Addr) (σ:Aa):GI (k+1) x0 σ=Um k (Gl k) x0 σ:=by
 simp only[GI,Gl,Ab]; kernel_rfl
theorem Wo (k:Nat) (x0:Option Addr) (x1:Int) (σ:Aa):AL (k+1) x0 x1 σ=RW k (Ai k) x0 x1 σ:=by
 simp only[Ai,AL,Ab]; kernel_rfl
theorem Wn (k:Nat) (x0:Option Addr) (x1:Int) (σ:Aa):B3 (k+1) x0 x1 σ=RU k (Ai k) x0 x1 σ:=by
 simp only[Ai,B3,Ab]; kernel_rfl
theorem Kz (k:Nat) (x0:Option Addr) (x1:Int) (σ:Aa):B4 (k+1) x0 x1 σ=Jz k (Ds k) (Ar k) x0 x1 σ:=by
 simp only[B4,Ds,Ar,Ab]; kernel_rfl
theorem Ib (k n:Nat) (p0:Option Addr) (i1:Int) (x5:Option Addr × Nat × Nat) (x6:Int) (σ:Aa):E4 k (n+1) p0 i1 x5 x6 σ=Hh k n (Ai k) (E4 k) p0 i1 x5 x6 σ:=by
 simp only[Ai,E4,Ab]; kernel_rfl
theorem Uw (k:Nat) (x0:Option Addr) (x1:Int) (σ:Aa):Da (k+1) x0 x1 σ=Qf k (E4 k) x0 x1 σ:=by
 simp only[Da,E4,Ab]; kernel_rfl
theorem NX (k n:Nat) (p0:Option Addr) (p1:Option Addr) (c2:Nat) (c3:Nat) (x5:Option Addr × Nat × Nat) (x6:Int) (x8:Int) (σ:Aa):D9 k (n+1) p0 p1 c2 c3 x5 x6 x8 σ=LA k n (D9 k) (AA k) (BG k) p0 p1 c2 c3 x5 x6 x8 σ:=by
 simp only[D9,AA,BG,Ab]; kernel_rfl
theorem Xd (k:Nat) (x0:Option Addr) (x1:Int) (σ:Aa):FV (k+1) x0 x1 σ=Tm k (D9 k) (Da k) (AL k) x0 x1 σ:=by
 simp only[FV,D9,Da,AL,Ab]; kernel_rfl
theorem Ra (k n:Nat) (p0:Option Addr) (c1:Nat) (c2:Nat) (p3:Option Addr) (c4:Nat) (c5:Nat) (x5:Int) (σ:Aa):GH k (n+1) p0 c1 c2 p3 c4 c5 x5 σ=P5 k n (GH k) p0 c1 c2 p3 c4 c5 x5 σ:=by
 simp only[GH,Ab]; kernel_rfl
theorem bp (k:Nat) (x0:Option Addr × Nat × Nat) (x1:Option Addr × Nat × Nat) (σ:Aa):MT (k+1) x0 x1 σ=Y5 k (GH k) x0 x1 σ:=by
 simp only[MT,GH,Ab]; kernel_rfl
theorem MY (k n:Nat) (p0:Option Addr) (i1:Int) (i2:Int) (x7:Bool) (x8:Int) (σ:Aa):En k (n+1) p0 i1 i2 x7 x8 σ=Lb k n (D3 k) (En k) p0 i1 i2 x7 x8 σ:=by
 simp only[D3,En,Ab]; kernel_rfl
theorem MX (k n:Nat) (p0:Option Addr) (i1:Int) (x5:Option Addr × Nat × Nat) (x6:Int) (σ:Aa):Em k (n+1) p0 i1 x5 x6 σ=La k n (Em k) (En k) p0 i1 x5 x6 σ:=by
 simp only[Em,En,Ab]; kernel_rfl
theorem Wj (k:Nat) (x0:Option Addr) (x1:Int) (σ:Aa):Fm (k+1) x0 x1 σ=RQ k (Em k) (AL k) x0 x1 σ:=by
 simp only[Fm,Em,AL,Ab]; kernel_rfl
theorem QY (k n:Nat) (p0:Option Addr) (p1:Option Addr) (i2:Int) (h3:Nat) (x13:Int) (σ:Aa):HN k (n+1) p0 p1 i2 h3 x13 σ=P3 k n (KM k) (HN k) (JR k) p0 p1 i2 h3 x13 σ:=by
 simp only[KM,HN,JR,Ab]; kernel_rfl
theorem QZ (k n:Nat) (p0:Option Addr) (p1:Option Addr) (i2:Int) (h3:Nat) (x14:Int) (σ:Aa):HO k (n+1) p0 p1 i2 h3 x14 σ=P4 k n (JK k) (HO k) (IP k) p0 p1 i2 h3 x14 σ:=by
 simp only[JK,HO,IP,Ab]; kernel_rfl
theorem bm (k:Nat) (x0:Option Addr) (x1:Option Addr) (x2:Int) (σ:Aa):KS (k+1) x0 x1 x2 σ=Y4 k (Eb k) (Gj k) (Dw k) (FP k) (GB k) (Hk k) (GC k) (HN k) (HO k) (D3 k) (F3 k) (HP k) (Fl k) (Gm k) (Ic k) (Hl k) x0 x1 x2 σ:=by
 simp only[Eb,Gj,Dw,FP,GB,Hk,GC,KS,HN,HO,D3,F3,HP,Fl,Gm,Ic,Hl,Ab]; kernel_rfl
theorem Pg (k n:Nat) (p0:Option Addr) (i1:Int) (x6:Int) (σ:Aa):GJ k (n+1) p0 i1 x6 σ=Nv k n (GJ k) p0 i1 x6 σ:=by
 simp only[GJ,Ab]; kernel_rfl
theorem Ze (k:Nat) (x0:Option Addr) (x1:Int) (σ:Aa):Hy (k+1) x0 x1 σ=VQ k (GJ k) (Ai k) x0 x1 σ:=by
 simp only[Hy,GJ,Ai,Ab]; kernel_rfl
theorem Mx (k:Nat) (x0:Option Addr) (σ:Aa):AE (k+1) x0 σ=Ks k  x0 σ:=by
 simp only[AE,Ab]; kernel_rfl
theorem QR (k:Nat)  (σ:Aa):Ea (k+1)  σ=Pw k   σ:=by
 simp only[Ea,Ab]; kernel_rfl
theorem Ki (k n:Nat) (p0:Option Addr) (i1:Int) (x7:Int) (σ:Aa):Cg k (n+1) p0 i1 x7 σ=HV k n (Cg k) (AF k) (DI k) p0 i1 x7 σ:=by
 simp only[Cg,AF,DI,Ab]; kernel_rfl
theorem LK (k:Nat) (x0:Option Addr) (x1:Int) (σ:Aa):Ck (k+1) x0 x1 σ=JD k (Cg k) x0 x1 σ:=by
 simp only[Ck,Cg,Ab]; kernel_rfl
theorem Pf (k:Nat) (x0:Option Addr) (x1:Int) (σ:Aa):Ca (k+1) x0 x1 σ=Nu k (Dw k) (Ar k) x0 x1 σ:=by
 simp only[Dw,Ar,Ca,Ab]; kernel_rfl
theorem VU (k:Nat) (x0:Int) (σ:Aa):FU (k+1) x0 σ=Vc k  x0 σ:=by
 simp only[FU,Ab]; kernel_rfl
theorem MD (k:Nat) (x0:Option Addr) (x1:Int) (σ:Aa):Cl (k+1) x0 x1 σ=Mg k (CZ k) x0 x1 σ:=by
 simp only[CZ,Cl,Ab]; kernel_rfl
theorem QV (k:Nat) (x0:Option Addr) (x1:Int) (σ:Aa):BL (k+1) x0 x1 σ=P0 k (FT k) (FU k) x0 x1 σ:=by
 simp only[BL,FT,FU,Ab]; kernel_rfl
theorem SR (k:Nat) (x0:Option Addr) (σ:Aa):AM (k+1) x0 σ=Oz k (Ai k) x0 σ:=by
 simp only[Ai,AM,Ab]; kernel_rfl
theorem Sq (k:Nat) (x0:Option Addr) (x1_0:Int) (x1_1:Int) (x1_2:Int) (σ:Aa):E5 (k+1) x0 x1_0 x1_1 x1_2 σ=NM k (Ez k) (Ff k) (IW k) (GU k) (BG k) (AM k) (DK k) (Ee k) (F8 k) (A8 k) (EE k) x0 x1_0 x1_1 x1_2 σ:=by
 simp only[Ez,Ff,IW,GU,BG,E5,AM,DK,Ee,F8,A8,EE,Ab]; kernel_rfl
theorem fb (k:Nat) (x0:Option Addr) (x1:Int) (σ:Aa):Qq (k+1) x0 x1 σ=c8 k (GI k) x0 x1 σ:=by
 simp only[Qq,GI,Ab]; kernel_rfl
theorem Sg (k:Nat) (x0:Option Addr) (σ:Aa):Fz (k+1) x0 σ=NJ k (AE k) x0 σ:=by
 simp only[Fz,AE,Ab]; kernel_rfl
theorem Ss (k:Nat) (x0:Option Addr) (σ:Aa):F6 (k+1) x0 σ=NO k (AM k) x0 σ:=by
 simp only[AM,F6,Ab]; kernel_rfl
theorem Rs (k:Nat) (x0:Option Addr) (σ:Aa):Fg (k+1) x0 σ=MO k (AM k) x0 σ:=by
 simp only[Fg,AM,Ab]; kernel_rfl
theorem Si (k:Nat) (x0:Option Addr) (σ:Aa):F0 (k+1) x0 σ=NK k (AE k) x0 σ:=by
 simp only[F0,AE,Ab]; kernel_rfl
theorem St (k:Nat) (x0:Option Addr) (σ:Aa):F7 (k+1) x0 σ=NP k (AM k) x0 σ:=by
 simp only[AM,F7,Ab]; kernel_rfl
theorem Rr (k:Nat) (x0:Option Addr) (σ:Aa):Fe (k+1) x0 σ=MN k (AE k) x0 σ:=by
 simp only[Fe,AE,Ab]; kernel_rfl
theorem Rt (k:Nat) (x0:Option Addr) (σ:Aa):Fh (k+1) x0 σ=MP k (AM k) x0 σ:=by
 simp only[AM,Fh,Ab]; kernel_rfl
theorem JO (k n:Nat) (p0:Option Addr) (i1:Int) (h2:Nat) (i3:Int) (x54:Int) (σ:Aa):D8 k (n+1) p0 i1 h2 i3 x54 σ=IH k n (D8 k) p0 i1 h2 i3 x54 σ:=by
 simp only[D8,Ab]; kernel_rfl
theorem Qn (k:Nat) (x0:Option Addr) (x1:Int) (x2:Int) (x3_0:Int) (x3_1:Int) (x4_0:Int) (x4_1:Int) (σ:Aa):Ew (k+1) x0 x1 x2 x3_0 x3_1 x4_0 x4_1 σ=Ow k (D8 k) (Ar k) (CZ k) (HF k) (Cm k) x0 x1 x2 x3_0 x3_1 x4_0 x4_1 σ:=by
 simp only[Ew,D8,Ar,CZ,HF,Cm,Ab]; kernel_rfl
theorem K6 (k n:Nat) (p0:Option Addr) (i1:Int) (i2:Int) (i3:Int) (x10:Int) (σ:Aa):Dt k (n+1) p0 i1 i2 i3 x10 σ=J0 k n (Eb k) (Dt k) p0 i1 i2 i3 x10 σ:=by
 simp only[Eb,Dt,Ab]; kernel_rfl
theorem QU (k:Nat) (x0:Option Addr) (x1:Int) (x2:Int) (x3:Int) (σ:Aa):GD (k+1) x0 x1 x2 x3 σ=Pz k (Dt k) (Dy k) x0 x1 x2 x3 σ:=by
 simp only[GD,Dt,Dy,Ab]; kernel_rfl
theorem Uu (k:Nat) (x0_0:Int) (x0_1:Int) (x0_2:Int) (σ:Aa):Jn (k+1) x0_0 x0_1 x0_2 σ=TH k  x0_0 x0_1 x0_2 σ:=by
 simp only[Jn,Ab]; kernel_rfl
theorem Rd (k:Nat) (x0:Option Addr) (x1:Int) (x2:Int) (σ:Aa):CS (k+1) x0 x1 x2 σ=P8 k (Fp k) (GL k) x0 x1 x2 σ:=by
 simp only[CS,Fp,GL,Ab]; kernel_rfl
theorem Kx (k:Nat) (x0:Int) (c0:Option Addr) (c1:Option Addr) (σ:Aa):CO (k+1) x0 c0 c1 σ=Jx k  x0 c0 c1 σ:=by
 simp only[CO,Ab]; kernel_rfl
theorem Rc (k:Nat) (x0:Option Addr) (x1:Int) (σ:Aa):Eg (k+1) x0 x1 σ=P7 k (D0 k) (DL k) x0 x1 σ:=by
 simp only[Eg,D0,DL,Ab]; kernel_rfl
theorem QX (k:Nat) (x0:Option Addr) (x1:Int) (x2:Int) (σ:Aa):GG (k+1) x0 x1 x2 σ=P2 k  x0 x1 x2 σ:=by
 simp only[GG,Ab]; kernel_rfl
theorem Yn (k:Nat) (x0:Option Addr) (x1:Int) (x2:Bool) (σ:Aa):GF (k+1) x0 x1 x2 σ=Uk k (Ar k) (CZ k) x0 x1 x2 σ:=by
 simp only[GF,Ar,CZ,Ab]; kernel_rfl
theorem K7 (k n:Nat) (p0:Option Addr) (i1:Int) (x5:Int) (σ:Aa):Ei k (n+1) p0 i1 x5 σ=J1 k n (Ei k) p0 i1 x5 σ:=by
 simp only[Ei,Ab]; kernel_rfl
theorem QW (k:Nat) (x0:Option Addr) (x1:Int) (σ:Aa):Dy (k+1) x0 x1 σ=P1 k (Ei k) x0 x1 σ:=by
 simp only[Dy,Ei,Ab]; kernel_rfl
theorem Nc (k:Nat) (x0:Option Addr × Nat × Nat) (x1:Int) (σ:Aa):EX (k+1) x0 x1 σ=Lf k (GM k) x0 x1 σ:=by
 simp only[EX,GM,Ab]; kernel_rfl
theorem Qu (k:Nat) (x0:Option Addr) (σ:Aa):BJ (k+1) x0 σ=O6 k  x0 σ:=by
 simp only[BJ,Ab]; kernel_rfl
theorem TJ (k:Nat) (x0:Option Addr × Nat × Nat) (σ:Aa):G8 (k+1) x0 σ=Pb k  x0 σ:=by
 simp only[G8,Ab]; kernel_rfl
theorem Wq (k:Nat) (x0:Option Addr) (x1:Int) (σ:Aa):C9 (k+1) x0 x1 σ=RY k  x0 x1 σ:=by
 simp only[C9,Ab]; kernel_rfl
theorem bA (k:Nat) (x0:Int) (σ:Aa):GV (k+1) x0 σ=YB k  x0 σ:=by
 simp only[GV,Ab]; kernel_rfl
theorem Na (k n:Nat) (p0:Option Addr) (i1:Int) (x5:Int) (σ:Aa):Ep k (n+1) p0 i1 x5 σ=Ld k n (Ep k) p0 i1 x5 σ:=by
 simp only[Ep,Ab]; kernel_rfl
theorem Wp (k:Nat) (x0:Option Addr) (x1:Int) (σ:Aa):Co (k+1) x0 x1 σ=RX k (Ep k) x0 x1 σ:=by
 simp only[Co,Ep,Ab]; kernel_rfl
theorem VV (k:Nat) (x0:Int) (σ:Aa):HF (k+1) x0 σ=Vd k  x0 σ:=by
 simp only[HF,Ab]; kernel_rfl
theorem bw (k:Nat) (x0_0:Int) (x0_1:Int) (x0_2:Int) (σ:Aa):GU (k+1) x0_0 x0_1 x0_2 σ=Y9 k  x0_0 x0_1 x0_2 σ:=by
 simp only[GU,Ab]; kernel_rfl
theorem NZ (k n:Nat) (p0:Option Addr) (i1:Int) (i2:Int) (h3:Nat) (x10:Int) (σ:Aa):DA k (n+1) p0 i1 i2 h3 x10 σ=LC k n (DA k) (BG k) p0 i1 i2 h3 x10 σ:=by
 simp only[DA,BG,Ab]; kernel_rfl
theorem Xh (k:Nat) (x0:Option Addr) (x1:Int) (x2_0:Int) (x2_1:Int) (x2_2:Int) (x3:Int) (σ:Aa):IU (k+1) x0 x1 x2_0 x2_1 x2_2 x3 σ=Tq k (Co k) (DA k) (Ff k) (IW k) (BG k) x0 x1 x2_0 x2_1 x2_2 x3 σ:=by
 simp only[Co,IU,DA,Ff,IW,BG,Ab]; kernel_rfl
theorem OH (k n:Nat) (p0:Option Addr) (h1:Nat) (x4:Int) (σ:Aa):EP k (n+1) p0 h1 x4 σ=MB k n (EP k) p0 h1 x4 σ:=by
 simp only[EP,Ab]; kernel_rfl
theorem Yu (k:Nat) (x0:Option Addr) (x1_0:Int) (x1_1:Int) (x1_2:Int) (x1_3:Int) (x1_4:Int) (x1_5:Option Addr × Nat × Nat) (x1_6:Option Addr × Nat × Nat) (x1_7:Bool) (σ:Aa):HQ (k+1) x0 x1_0 x1_1 x1_2 x1_3 x1_4 x1_5 x1_6 x1_7 σ=Uq k (EP k) x0 x1_0 x1_1 x1_2 x1_3 x1_4 x1_5 x1_6 x1_7 σ:=by
 simp only[HQ,EP,Ab]; kernel_rfl
theorem Wr (k:Nat) (x0:Option Addr) (x1:Int) (σ:Aa):BI (k+1) x0 x1 σ=RZ k (AA k) (Ai k) x0 x1 σ:=by
 simp only[AA,Ai,BI,Ab]; kernel_rfl
theorem Yt (k:Nat) (x0:Option Addr) (x1:Int) (σ:Aa):JS (k+1) x0 x1 σ=Up k  x0 x1 σ:=by
 simp only[JS,Ab]; kernel_rfl
theorem MW (k n:Nat) (p0:Option Addr) (i1:Int) (x5:Int) (σ:Aa):EW k (n+1) p0 i1 x5 σ=KZ k n (EW k) p0 i1 x5 σ:=by
 simp only[EW,Ab]; kernel_rfl
theorem Wi (k:Nat) (x0:Option Addr) (x1:Int) (σ:Aa):AA (k+1) x0 x1 σ=RP k (EW k) (Ai k) x0 x1 σ:=by
 simp only[AA,EW,Ai,Ab]; kernel_rfl
theorem WZ (k:Nat) (x0:Option Addr) (x1:Int) (x2:Int) (x3:Bool) (σ:Aa):FQ (k+1) x0 x1 x2 x3 σ=Tj k (Ca k) (FU k) x0 x1 x2 x3 σ:=by
 simp only[FQ,Ca,FU,Ab]; kernel_rfl
theorem Sk (k:Nat) (x0:Option Addr) (x1:Int) (σ:Aa):Dw (k+1) x0 x1 σ=QA k (Ar k) (Eg k) x0 x1 σ:=by
 simp only[Dw,Ar,Eg,Ab]; kernel_rfl
theorem Yr (k:Nat) (x0:Option Addr) (x1:Int) (σ:Aa):HP (k+1) x0 x1 σ=Un k (AA k) x0 x1 σ:=by
 simp only[HP,AA,Ab]; kernel_rfl
theorem QS (k:Nat) (x0:Option Addr) (x1:Int) (σ:Aa):Eb (k+1) x0 x1 σ=Px k (Ar k) (BL k) (Ga k) x0 x1 σ:=by
 simp only[Eb,Ar,BL,Ga,Ab]; kernel_rfl
theorem Xi (k:Nat) (x0:Option Addr) (x1:Int) (σ:Aa):IV (k+1) x0 x1 σ=Tt k  x0 x1 σ:=by
 simp only[IV,Ab]; kernel_rfl
theorem NW (k n:Nat) (p0:Option Addr) (i1:Int) (x6:Int) (σ:Aa):F2 k (n+1) p0 i1 x6 σ=L9 k n (F2 k) (BG k) p0 i1 x6 σ:=by
 simp only[F2,BG,Ab]; kernel_rfl
theorem Xc (k:Nat) (x0:Option Addr) (x1:Int) (σ:Aa):D3 (k+1) x0 x1 σ=Tl k (F2 k) (Ai k) x0 x1 σ:=by
 simp only[D3,F2,Ai,Ab]; kernel_rfl
theorem bz (k:Nat) (x0_0:Int) (x0_1:Int) (x0_2:Int) (σ:Aa):BG (k+1) x0_0 x0_1 x0_2 σ=YA k (GU k) x0_0 x0_1 x0_2 σ:=by
 simp only[GU,BG,Ab]; kernel_rfl
theorem G0 (k n:Nat) (p0:Option Addr) (i1:Int) (x7:Option Addr × Nat × Nat) (x8:Int) (x9:Int) (σ:Aa):Cd k (n+1) p0 i1 x7 x8 x9 σ=FN k n (Cd k) (Db k) p0 i1 x7 x8 x9 σ:=by
 simp only[Cd,Db,Ab]; kernel_rfl
theorem OD (k:Nat) (x0:Option Addr) (x1:Int) (x2:Int) (σ:Aa):Ds (k+1) x0 x1 x2 σ=M8 k (Cd k) (Db k) x0 x1 x2 σ:=by
 simp only[Ds,Cd,Db,Ab]; kernel_rfl
theorem Xg (k:Nat) (x0:Option Addr) (x1:Int) (σ:Aa):Hl (k+1) x0 x1 σ=Tp k (D3 k) (AA k) (Ai k) (IV k) x0 x1 σ:=by
 simp only[D3,AA,Ai,Hl,IV,Ab]; kernel_rfl
theorem Wd (k:Nat) (x0:Option Addr) (x1:Int) (σ:Aa):GB (k+1) x0 x1 σ=RH k (Dw k) (Eg k) x0 x1 σ:=by
 simp only[Dw,GB,Eg,Ab]; kernel_rfl
theorem Vl (k:Nat) (x0:Option Addr) (x1:Int) (σ:Aa):Gm (k+1) x0 x1 σ=QP k (AA k) x0 x1 σ:=by
 simp only[AA,Gm,Ab]; kernel_rfl
theorem LN (k n:Nat) (p0:Option Addr) (i1:Int) (x6:Int) (σ:Aa):E3 k (n+1) p0 i1 x6 σ=JG k n (E3 k) p0 i1 x6 σ:=by
 simp only[E3,Ab]; kernel_rfl
theorem Uv (k:Nat) (x0:Option Addr) (x1:Int) (σ:Aa):F3 (k+1) x0 x1 σ=Qe k (E3 k) (Ai k) x0 x1 σ:=by
 simp only[F3,E3,Ai,Ab]; kernel_rfl
theorem Wh (k:Nat) (x0:Option Addr) (x1:Int) (σ:Aa):Fl (k+1) x0 x1 σ=RN k (AA k) (BI k) x0 x1 σ:=by
 simp only[Fl,AA,BI,Ab]; kernel_rfl
theorem Wm (k:Nat) (x0:Option Addr) (x1:Int) (σ:Aa):Ic (k+1) x0 x1 σ=RT k (AA k) (BI k) x0 x1 σ:=by
 simp only[AA,Ic,BI,Ab]; kernel_rfl
theorem Zc (k:Nat) (x0:Option Addr) (x1:Int) (x2:Int) (σ:Aa):KM (k+1) x0 x1 x2 σ=VO k (FQ k) x0 x1 x2 σ:=by
 simp only[KM,FQ,Ab]; kernel_rfl
theorem Ys (k:Nat) (x0:Option Addr) (x1:Int) (x2:Int) (σ:Aa):JR (k+1) x0 x1 x2 σ=Uo k (AA k) (BI k) x0 x1 x2 σ:=by
 simp only[AA,JR,BI,Ab]; kernel_rfl
theorem Yk (k:Nat) (x0:Option Addr) (x1:Int) (x2:Int) (σ:Aa):JK (k+1) x0 x1 x2 σ=Uh k (FQ k) x0 x1 x2 σ:=by
 simp only[JK,FQ,Ab]; kernel_rfl
theorem Xb (k:Nat) (x0:Option Addr) (x1:Int) (x2:Int) (σ:Aa):IP (k+1) x0 x1 x2 σ=Tk k (AA k) (BI k) x0 x1 x2 σ:=by
 simp only[IP,AA,BI,Ab]; kernel_rfl
theorem Qo (k:Nat) (x0:Option Addr) (x1:Int) (σ:Aa):CZ (k+1) x0 x1 σ=Ox k (Ar k) x0 x1 σ:=by
 simp only[Ar,CZ,Ab]; kernel_rfl
theorem bu (k:Nat) (x0_0:Int) (x0_1:Int) (x0_2:Int) (σ:Aa):Ff (k+1) x0_0 x0_1 x0_2 σ=Y8 k (BG k) x0_0 x0_1 x0_2 σ:=by
 simp only[Ff,BG,Ab]; kernel_rfl
theorem dp (k:Nat) (x0_0:Int) (x0_1:Int) (x0_2:Int) (σ:Aa):IW (k+1) x0_0 x0_1 x0_2 σ=ZE k (BG k) x0_0 x0_1 x0_2 σ:=by
 simp only[IW,BG,Ab]; kernel_rfl
theorem Sw (k n:Nat) (p0:Option Addr) (i1:Int) (i2:Int) (x6:Int) (σ:Aa):I9 k (n+1) p0 i1 i2 x6 σ=QG k n (AL k) (I9 k) p0 i1 i2 x6 σ:=by
 simp only[AL,I9,Ab]; kernel_rfl
theorem Zf (k n:Nat) (p0:Option Addr) (i1:Int) (x5:Int) (σ:Aa):I8 k (n+1) p0 i1 x5 σ=VR k n (Ay k) (I8 k) (I9 k) p0 i1 x5 σ:=by
 simp only[Ay,I8,I9,Ab]; kernel_rfl
theorem dq (k:Nat) (x0:Option Addr) (x1:Int) (σ:Aa):EE (k+1) x0 x1 σ=ZF k (I8 k) x0 x1 σ:=by
 simp only[EE,I8,Ab]; kernel_rfl
theorem Sv (k:Nat) (x0:Option Addr) (x1:Int) (x2:Int) (x3_0:Int) (x3_1:Int) (x3_2:Int) (σ:Aa):A8 (k+1) x0 x1 x2 x3_0 x3_1 x3_2 σ=NR k (Df k) (DJ k) (B3 k) (Ff k) x0 x1 x2 x3_0 x3_1 x3_2 σ:=by
 simp only[Df,DJ,B3,Ff,A8,Ab]; kernel_rfl
theorem SS (k:Nat) (x0:Option Addr) (x1_0:Int) (x1_1:Int) (x1_2:Int) (x2:Int) (σ:Aa):DK (k+1) x0 x1_0 x1_1 x1_2 x2 σ=O0 k (A8 k) (EE k) x0 x1_0 x1_1 x1_2 x2 σ:=by
 simp only[DK,A8,EE,Ab]; kernel_rfl
theorem Ko (k n:Nat) (p0:Option Addr) (i1:Int) (h2:Nat) (i3:Int) (p4:Option Addr) (c5:Nat) (c6:Nat) (x10:Int) (σ:Aa):CB k (n+1) p0 i1 h2 i3 p4 c5 c6 x10 σ=HZ k n (CB k) (A8 k) p0 i1 h2 i3 p4 c5 c6 x10 σ:=by
 simp only[CB,A8,Ab]; kernel_rfl
theorem Km (k n:Nat) (p0:Option Addr) (i1:Int) (h2:Nat) (x8:Int) (σ:Aa):CA k (n+1) p0 i1 h2 x8 σ=HY k n (Ay k) (B3 k) (AL k) (CA k) (CB k) (KT k) p0 i1 h2 x8 σ:=by
 simp only[Ay,B3,AL,CA,CB,KT,Ab]; kernel_rfl
theorem Su (k:Nat) (x0:Option Addr) (x1_0:Int) (x1_1:Int) (x1_2:Int) (x2:Int) (σ:Aa):F8 (k+1) x0 x1_0 x1_1 x1_2 x2 σ=NQ k (DK k) (CA k) (FY k) x0 x1_0 x1_1 x1_2 x2 σ:=by
 simp only[DK,F8,CA,FY,Ab]; kernel_rfl
theorem JT (k n:Nat) (p0:Option Addr) (i1:Int) (p2:Option Addr) (c3:Nat) (c4:Nat) (x7:Int) (σ:Aa):Dh k (n+1) p0 i1 p2 c3 c4 x7 σ=HC k n (Dh k) p0 i1 p2 c3 c4 x7 σ:=by
 simp only[Dh,Ab]; kernel_rfl
theorem JU (k n:Nat) (p0:Option Addr) (i1:Int) (p2:Option Addr) (c3:Nat) (c4:Nat) (x10:Int) (x11:Int) (σ:Aa):Di k (n+1) p0 i1 p2 c3 c4 x10 x11 σ=HD k n (Di k) p0 i1 p2 c3 c4 x10 x11 σ:=by
 simp only[Di,Ab]; kernel_rfl
theorem Ru (k:Nat) (x0:Option Addr) (x1:Int) (σ:Aa):Ee (k+1) x0 x1 σ=MQ k (Dh k) (Di k) (FX k) x0 x1 σ:=by
 simp only[Ee,Dh,Di,FX,Ab]; kernel_rfl
theorem HL (k:Nat) (x0:Option Addr × Nat × Nat) (x1:Value) (σ:Aa):Cm (k+1) x0 x1 σ=FO k (CL k) x0 x1 σ:=by
 simp only[Cm,CL,Ab]; kernel_rfl
theorem NV (k:Nat) (x0_0:Int) (x0_1:Int) (σ:Aa):CY (k+1) x0_0 x0_1 σ=L8 k  x0_0 x0_1 σ:=by
 simp only[CY,Ab]; kernel_rfl
theorem Ph (k:Nat) (x0:Option Addr) (x1:Int) (x2:Option Addr × Nat × Nat) (σ:Aa):Fp (k+1) x0 x1 x2 σ=Nw k (BJ k) (DL k) (DE k) x0 x1 x2 σ:=by
 simp only[Fp,BJ,DL,DE,Ab]; kernel_rfl
theorem Rf (k:Nat) (x0:Option Addr) (x1:Int) (x2:Int) (σ:Aa):GL (k+1) x0 x1 x2 σ=PA k (Dc k) x0 x1 x2 σ:=by
 simp only[Dc,GL,Ab]; kernel_rfl
theorem Pj (k:Nat) (x0:Option Addr) (x1:Int) (σ:Aa):DL (k+1) x0 x1 σ=Nx k (BJ k) x0 x1 σ:=by
 simp only[BJ,DL,Ab]; kernel_rfl
theorem Re (k:Nat) (x0:Option Addr) (x1:Int) (σ:Aa):D0 (k+1) x0 x1 σ=P9 k (Dc k) x0 x1 σ:=by
 simp only[D0,Dc,Ab]; kernel_rfl
theorem Nd (k n:Nat) (p0:Option Addr) (c1:Nat) (c2:Nat) (i3:Int) (i4:Int) (x8:Int) (σ:Aa):Er k (n+1) p0 c1 c2 i3 i4 x8 σ=Lg k n (Er k) p0 c1 c2 i3 i4 x8 σ:=by
 simp only[Er,Ab]; kernel_rfl
theorem Pm (k:Nat) (x0:Option Addr × Nat × Nat) (x1:Int) (σ:Aa):GM (k+1) x0 x1 σ=Nz k (Er k) x0 x1 σ:=by
 simp only[GM,Er,Ab]; kernel_rfl
theorem JV (k n:Nat) (p0:Option Addr) (i1:Int) (x8:Int) (σ:Aa):DB k (n+1) p0 i1 x8 σ=II k n (DB k) (D0 k) p0 i1 x8 σ:=by
 simp only[DB,D0,Ab]; kernel_rfl
theorem Qs (k:Nat) (x0:Option Addr) (x1:Int) (x2:Int) (σ:Aa):Ga (k+1) x0 x1 x2 σ=O4 k (DB k) (BJ k) x0 x1 x2 σ:=by
 simp only[Ga,DB,BJ,Ab]; kernel_rfl
theorem Oa (k n:Nat) (p0:Option Addr) (i1:Int) (x8:Int) (σ:Aa):DC k (n+1) p0 i1 x8 σ=LD k n (DC k) (D0 k) p0 i1 x8 σ:=by
 simp only[DC,D0,Ab]; kernel_rfl
theorem Qt (k:Nat) (x0:Option Addr) (x1:Int) (x2:Int) (σ:Aa):Db (k+1) x0 x1 x2 σ=O5 k (DC k) (BJ k) x0 x1 x2 σ:=by
 simp only[Db,DC,BJ,Ab]; kernel_rfl
theorem SV (k:Nat) (x0:Option Addr) (x1_0:Int) (x1_1:Int) (x1_2:Int) (x2:Int) (σ:Aa):FY (k+1) x0 x1_0 x1_1 x1_2 x2 σ=O2 k (A8 k) (EE k) x0 x1_0 x1_1 x1_2 x2 σ:=by
 simp only[FY,A8,EE,Ab]; kernel_rfl
theorem Rb (k n:Nat) (p0:Option Addr) (c1:Nat) (c2:Nat) (x5:Option Addr × Nat × Nat) (x7:Int) (σ:Aa):HR k (n+1) p0 c1 c2 x5 x7 σ=P6 k n (HR k) p0 c1 c2 x5 x7 σ:=by
 simp only[HR,Ab]; kernel_rfl
theorem bB (k:Nat) (x0:Option Addr) (x1:Int) (σ:Aa):KT (k+1) x0 x1 σ=YC k (Fm k) (HR k) x0 x1 σ:=by
 simp only[Fm,KT,HR,Ab]; kernel_rfl
theorem KN (k n:Nat) (p0:Option Addr) (x3:Option Addr × Nat × Nat) (x4:Int) (σ:Aa):DD k (n+1) p0 x3 x4 σ=Iy k n (Ay k) (FV k) (B3 k) (AL k) (DD k) p0 x3 x4 σ:=by
 simp only[Ay,FV,B3,AL,DD,Ab]; kernel_rfl
theorem SU (k:Nat) (x0:Option Addr) (σ:Aa):FX (k+1) x0 σ=O1 k (DD k) x0 σ:=by
 simp only[FX,DD,Ab]; kernel_rfl
theorem Fi (k n:Nat) (p0:Option Addr) (c1:Nat) (c2:Nat) (v3:Value) (i4:Int) (x8:Int) (σ:Aa):Bw k (n+1) p0 c1 c2 v3 i4 x8 σ=Et k n (IK k) (Bw k) p0 c1 c2 v3 i4 x8 σ:=by
 simp only[IK,Bw,Ab]; kernel_rfl
theorem IX (k:Nat) (x0:Option Addr × Nat × Nat) (x1:Value) (σ:Aa):CL (k+1) x0 x1 σ=GZ k (Bw k) x0 x1 σ:=by
 simp only[CL,Bw,Ab]; kernel_rfl
theorem KO (k:Nat) (x0:Option Addr × Nat × Nat) (x1:Value) (σ:Aa):DE (k+1) x0 x1 σ=Iz k (EF k) x0 x1 σ:=by
 simp only[DE,EF,Ab]; kernel_rfl
theorem Nb (k:Nat) (x0:Int) (c0:Option Addr) (σ:Aa):CH (k+1) x0 c0 σ=Le k (Fq k) x0 c0 σ:=by
 simp only[CH,Fq,Ab]; kernel_rfl
theorem Pk (k:Nat) (x0:Option Addr) (x1:Int) (σ:Aa):Fq (k+1) x0 x1 σ=Ny k (Dc k) x0 x1 σ:=by
 simp only[Dc,Fq,Ab]; kernel_rfl
theorem Qv (k:Nat) (x0:Option Addr) (σ:Aa):Dc (k+1) x0 σ=O7 k  x0 σ:=by
 simp only[Dc,Ab]; kernel_rfl
theorem Hz (k n:Nat) (p0:Option Addr) (c1:Nat) (c2:Nat) (v3:Value) (i4:Int) (x8:Int) (σ:Aa):CR k (n+1) p0 c1 c2 v3 i4 x8 σ=Gz k n (NT k) (CR k) p0 c1 c2 v3 i4 x8 σ:=by
 simp only[NT,CR,Ab]; kernel_rfl
theorem M0 (k:Nat) (x0:Option Addr × Nat × Nat) (x1:Value) (σ:Aa):EF (k+1) x0 x1 σ=Kw k (CR k) x0 x1 σ:=by
 simp only[EF,CR,Ab]; kernel_rfl
theorem OA (k:Nat) (x1:Option Addr) (x2:Int) (σ:Aa):Dp (k+1) x1 x2 σ=M5 k (AZ k) (Bc k) x1 x2 σ:=by
 simp only[AZ,Bc,Dp,Ab]; kernel_rfl
theorem LL (k:Nat) (x0:Option Addr) (x1:Option Addr × Nat × Nat) (σ:Aa):Bc (k+1) x0 x1 σ=JE k (B7 k) x0 x1 σ:=by
 simp only[B7,Bc,Ab]; kernel_rfl
theorem Hr (k n:Nat) (i0:Int) (i1:Int) (p2:Option Addr) (c3:Nat) (c4:Nat) (i5:Int) (x7:Option Addr × Nat × Nat) (x27:Int) (σ:Aa):BW k (n+1) i0 i1 p2 c3 c4 i5 x7 x27 σ=Gw k n (BW k) i0 i1 p2 c3 c4 i5 x7 x27 σ:=by
 simp only[BW,Ab]; kernel_rfl
theorem Hq (k n:Nat) (p0:Option Addr) (i1:Int) (i2:Int) (p3:Option Addr) (c4:Nat) (c5:Nat) (i6:Int) (x7:Option Addr × Nat × Nat) (x16:Int) (σ:Aa):BV k (n+1) p0 i1 i2 p3 c4 c5 i6 x7 x16 σ=Gv k n (BV k) (BW k) (Ec k) p0 i1 i2 p3 c4 c5 i6 x7 x16 σ:=by
 simp only[BV,BW,Ec,Ab]; kernel_rfl
theorem Mv (k:Nat) (x0:Option Addr) (x1:Int) (x2:Int) (σ:Aa):AZ (k+1) x0 x1 x2 σ=Kq k (Bx k) (BV k) x0 x1 x2 σ:=by
 simp only[Bx,AZ,BV,Ab]; kernel_rfl
theorem Ha (k n:Nat) (p0:Option Addr) (h1:Nat) (x4:Int) (σ:Aa):Cf k (n+1) p0 h1 x4 σ=FM k n (Cf k) (AF k) (C3 k) p0 h1 x4 σ:=by
 simp only[Cf,AF,C3,Ab]; kernel_rfl
theorem LJ (k:Nat) (x0:Option Addr) (σ:Aa):B7 (k+1) x0 σ=JC k (Cf k) x0 σ:=by
 simp only[B7,Cf,Ab]; kernel_rfl
theorem G9 (k n:Nat) (p0:Option Addr) (i1:Int) (x3:Option Addr × Nat × Nat) (x10:Int) (σ:Aa):B9 k (n+1) p0 i1 x3 x10 σ=FC k n (B9 k) (B5 k) (C5 k) p0 i1 x3 x10 σ:=by
 simp only[B9,B5,C5,Ab]; kernel_rfl
theorem Lo (k:Nat) (x0:Option Addr) (σ:Aa):Bx (k+1) x0 σ=Jl k (B9 k) (AF k) x0 σ:=by
 simp only[Bx,B9,AF,Ab]; kernel_rfl
theorem Pc (k:Nat) (x1:Option Addr) (x2:Int) (σ:Aa):DF (k+1) x1 x2 σ=Nr k (AZ k) (Bc k) (Bs k) x1 x2 σ:=by
 simp only[AZ,Bc,DF,Bs,Ab]; kernel_rfl
theorem Fs (k:Nat) (x0:Option Addr × Nat × Nat) (x1:Value) (σ:Aa):Bs (k+1) x0 x1 σ=E6 k (C0 k) x0 x1 σ:=by
 simp only[Bs,C0,Ab]; kernel_rfl
theorem MS (k:Nat) (x0_0:Int) (x0_1:Int) (x1_0:Int) (x1_1:Int) (σ:Aa):Dm (k+1) x0_0 x0_1 x1_0 x1_1 σ=KX k  x0_0 x0_1 x1_0 x1_1 σ:=by
 simp only[Dm,Ab]; kernel_rfl
theorem ER (k n:Nat) (p0:Option Addr) (c1:Nat) (c2:Nat) (i3:Int) (v4:Value) (x7:Int) (x8:Int) (σ:Aa):Bf k (n+1) p0 c1 c2 i3 v4 x7 x8 σ=DR k n (AK k) (Bf k) p0 c1 c2 i3 v4 x7 x8 σ:=by
 simp only[AK,Bf,Ab]; kernel_rfl
theorem H7 (k n:Nat) (p0:Option Addr) (c1:Nat) (c2:Nat) (i3:Int) (v4:Value) (i5:Int) (x7:Int) (x8:Int) (σ:Aa):Bv k (n+1) p0 c1 c2 i3 v4 i5 x7 x8 σ=FF k n (Bv k) (A9 k) p0 c1 c2 i3 v4 i5 x7 x8 σ:=by
 simp only[Bv,A9,Ab]; kernel_rfl
theorem ES (k n:Nat) (p0:Option Addr) (c1:Nat) (c2:Nat) (i3:Int) (v4:Value) (x6:Int) (σ:Aa):Bg k (n+1) p0 c1 c2 i3 v4 x6 σ=DS k n (Bg k) (Bv k) (A9 k) p0 c1 c2 i3 v4 x6 σ:=by
 simp only[Bg,Bv,A9,Ab]; kernel_rfl
theorem FG (k:Nat) (x0:Option Addr × Nat × Nat) (x1:Int) (x2:Value) (σ:Aa):C0 (k+1) x0 x1 x2 σ=EC k (AK k) (Bf k) (Bg k) x0 x1 x2 σ:=by
 simp only[AK,C0,Bf,Bg,Ab]; kernel_rfl
theorem D5 (k n:Nat) (p0:Option Addr) (c1:Nat) (c2:Nat) (i3:Int) (v4:Value) (x9:Int) (σ:Aa):AU k (n+1) p0 c1 c2 i3 v4 x9 σ=CF k n (Dx k) (AU k) p0 c1 c2 i3 v4 x9 σ:=by
 simp only[Dx,AU,Ab]; kernel_rfl
theorem D4 (k n:Nat) (p0:Option Addr) (c1:Nat) (c2:Nat) (i3:Int) (i4:Int) (v5:Value) (x8:Int) (σ:Aa):AR k (n+1) p0 c1 c2 i3 i4 v5 x8 σ=CE k n (AR k) (AU k) p0 c1 c2 i3 i4 v5 x8 σ:=by
 simp only[AR,AU,Ab]; kernel_rfl
theorem Es (k:Nat) (x0:Option Addr × Nat × Nat) (x1:Int) (x2:Int) (x3:Value) (σ:Aa):AK (k+1) x0 x1 x2 x3 σ=Dg k (AR k) x0 x1 x2 x3 σ:=by
 simp only[AK,AR,Ab]; kernel_rfl
theorem LP (k n:Nat) (p0:Option Addr) (c1:Nat) (c2:Nat) (i3:Int) (v4:Value) (x10:Int) (x11:Int) (σ:Aa):BO k (n+1) p0 c1 c2 i3 v4 x10 x11 σ=HI k n (Dx k) (BO k) p0 c1 c2 i3 v4 x10 x11 σ:=by
 simp only[Dx,BO,Ab]; kernel_rfl
theorem Hc (k n:Nat) (p0:Option Addr) (c1:Nat) (c2:Nat) (i3:Int) (x13:Int) (σ:Aa):BP k (n+1) p0 c1 c2 i3 x13 σ=Fb k n (BP k) p0 c1 c2 i3 x13 σ:=by
 simp only[BP,Ab]; kernel_rfl
theorem LQ (k n:Nat) (p0:Option Addr) (c1:Nat) (c2:Nat) (i3:Int) (v4:Value) (x14:Int) (x15:Int) (σ:Aa):BQ k (n+1) p0 c1 c2 i3 v4 x14 x15 σ=HJ k n (Dx k) (BQ k) p0 c1 c2 i3 v4 x14 x15 σ:=by
 simp only[Dx,BQ,Ab]; kernel_rfl
theorem Hd (k n:Nat) (p0:Option Addr) (c1:Nat) (c2:Nat) (i3:Int) (x17:Int) (σ:Aa):BR k (n+1) p0 c1 c2 i3 x17 σ=Fc k n (BR k) p0 c1 c2 i3 x17 σ:=by
 simp only[BR,Ab]; kernel_rfl
theorem LR (k n:Nat) (p0:Option Addr) (c1:Nat) (c2:Nat) (v3:Value) (i4:Int) (x20:Int) (x21:Int) (σ:Aa):BS k (n+1) p0 c1 c2 v3 i4 x20 x21 σ=HK k n (Dx k) (BS k) p0 c1 c2 v3 i4 x20 x21 σ:=by
 simp only[Dx,BS,Ab]; kernel_rfl
theorem Nf (k:Nat) (x0:Option Addr × Nat × Nat) (x1:Int) (x2:Int) (x3:Int) (x4:Value) (σ:Aa):A9 (k+1) x0 x1 x2 x3 x4 σ=IJ k (Cz k) (A9 k) (BO k) (BP k) (BQ k) (BR k) (BS k) x0 x1 x2 x3 x4 σ:=by
 simp only[Cz,A9,BO,BP,BQ,BR,BS,Ab]; kernel_rfl
theorem ME (k n:Nat) (p0:Option Addr) (c1:Nat) (c2:Nat) (i3:Int) (v4:Value) (x10:Int) (x11:Int) (σ:Aa):Ce k (n+1) p0 c1 c2 i3 v4 x10 x11 σ=Iu k n (Ce k) (BA k) p0 c1 c2 i3 v4 x10 x11 σ:=by
 simp only[Ce,BA,Ab]; kernel_rfl
theorem Ok (k:Nat) (x0:Option Addr × Nat × Nat) (x1:Int) (x2:Int) (x3:Int) (x4:Value) (σ:Aa):Cz (k+1) x0 x1 x2 x3 x4 σ=JI k (Ce k) (BA k) x0 x1 x2 x3 x4 σ:=by
 simp only[Cz,Ce,BA,Ab]; kernel_rfl
theorem GR (k n:Nat) (p0:Option Addr) (c1:Nat) (c2:Nat) (i3:Int) (i4:Int) (i5:Int) (x10:Int) (σ:Aa):BM k (n+1) p0 c1 c2 i3 i4 i5 x10 σ=EM k n (BM k) p0 c1 c2 i3 i4 i5 x10 σ:=by
 simp only[BM,Ab]; kernel_rfl
theorem MF (k:Nat) (x0:Option Addr × Nat × Nat) (x1:Int) (x2:Int) (x3:Int) (x4:Value) (σ:Aa):BA (k+1) x0 x1 x2 x3 x4 σ=Iv k (BM k) x0 x1 x2 x3 x4 σ:=by
 simp only[BA,BM,Ab]; kernel_rfl
theorem Pe (k:Nat) (x1:Option Addr) (x2:Int) (σ:Aa):DH (k+1) x1 x2 σ=Nt k (AZ k) (Bc k) x1 x2 σ:=by
 simp only[AZ,Bc,DH,Ab]; kernel_rfl
theorem Pd (k:Nat) (x1:Option Addr) (x2:Int) (σ:Aa):DG (k+1) x1 x2 σ=Ns k (BF k) x1 x2 σ:=by
 simp only[BF,DG,Ab]; kernel_rfl
theorem Lp (k:Nat) (x0:Option Addr) (x1:Option Addr) (x2:Int) (σ:Aa):BF (k+1) x0 x1 x2 σ=Jm k (B7 k) (DZ k) (D2 k) x0 x1 x2 σ:=by
 simp only[B7,BF,DZ,D2,Ab]; kernel_rfl
theorem QQ (k:Nat) (x0:Option Addr) (x1:Int) (σ:Aa):DZ (k+1) x0 x1 σ=Pv k  x0 x1 σ:=by
 simp only[DZ,Ab]; kernel_rfl
theorem Qj (k:Nat) (x0:Option Addr) (x1:Int) (σ:Aa):D2 (k+1) x0 x1 σ=Oq k  x0 x1 σ:=by
 simp only[D2,Ab]; kernel_rfl
theorem OB (k:Nat) (x1:Option Addr) (x2:Int) (σ:Aa):Dq (k+1) x1 x2 σ=M6 k (BF k) (CW k) (DZ k) (D2 k) x1 x2 σ:=by
 simp only[BF,CW,DZ,D2,Dq,Ab]; kernel_rfl
theorem Ht (k n:Nat) (p0:Option Addr) (c1:Nat) (c2:Nat) (x8:Int) (σ:Aa):Cq k (n+1) p0 c1 c2 x8 σ=Gy k n (Cq k) p0 c1 c2 x8 σ:=by
 simp only[Cq,Ab]; kernel_rfl
theorem KL (k n:Nat) (p0:Option Addr) (h1:Nat) (i2:Int) (p3:Option Addr) (c4:Nat) (c5:Nat) (x7:Int) (σ:Aa):Cp k (n+1) p0 h1 i2 p3 c4 c5 x7 σ=Ix k n (Cp k) (Cq k) p0 h1 i2 p3 c4 c5 x7 σ:=by
 simp only[Cp,Cq,Ab]; kernel_rfl
theorem Hs (k n:Nat) (p0:Option Addr) (h1:Nat) (p2:Option Addr) (c3:Nat) (c4:Nat) (i5:Int) (x13:Int) (σ:Aa):BX k (n+1) p0 h1 p2 c3 c4 i5 x13 σ=Gx k n (BX k) (Cp k) (CX k) p0 h1 p2 c3 c4 i5 x13 σ:=by
 simp only[BX,Cp,CX,Ab]; kernel_rfl
theorem Mw (k:Nat) (x0:Option Addr) (σ:Aa):CW (k+1) x0 σ=Kr k (B7 k) (Bx k) (BX k) x0 σ:=by
 simp only[B7,Bx,CW,BX,Ab]; kernel_rfl
theorem Yo (k:Nat) (x0:Option Nat) (σ:Aa):JP (k+1) x0 σ=bg [.map x0] σ:=by
 simp only[JP,Ab]; kernel_rfl
theorem Yx (k:Nat) (x0:Int) (x1:Int) (x2:Int) (x3:Option Addr × Nat × Nat) (σ:Aa):fn P (XK Kn.b) H k 9 [.int .i64 x0,.int .i64 x1,.int .i64 x2,.slice x3.1 x3.2.1 x3.2.2] σ=K9 k x0 x1 x2 x3 σ:=by
 simp only[K9,Ab]
theorem Oj (k:Nat) (x0:Option Addr) (x1:Int) (σ:Aa):Cy k (.func (.func 99) #[] #[]) [.pointer x0,.int .i64 x1] σ=Ck k x0 x1 σ:=by
 simp only[Cy,Ck,Ab]; kernel_rfl
theorem Qi (k:Nat) (x0_0:Int) (x0_1:Int) (σ:Aa):IK k (.func (.func 166) #[] #[]) [.agg #[.int .i64 x0_0,.int .i64 x0_1]] σ=CY k x0_0 x0_1 σ:=by
 simp only[IK,CY,Ab]; kernel_rfl
theorem Qh (k:Nat) (x0:Int) (c0:Option Addr) (σ:Aa):NT k (.func (.func 179) #[] #[.pointer c0]) [.int .i64 x0] σ=CH k x0 c0 σ:=by
 simp only[NT,CH,Ab]; kernel_rfl
theorem O9 (k:Nat) (x0_0:Int) (x0_1:Int) (x1_0:Int) (x1_1:Int) (σ:Aa):Dx k (.func (.func 206) #[] #[]) [.agg #[.int .i64 x0_0,.int .i64 x0_1],.agg #[.int .i64 x1_0,.int .i64 x1_1]] σ=Dm k x0_0 x0_1 x1_0 x1_1 σ:=by
 simp only[Dx,Dm,Ab]; kernel_rfl
end
theorem bq [Bb] (k:Nat) (σ:Aa):@FL _ ⟨true⟩ (k+1) σ=some (.bool true,σ):=by
 simp only[FL,Ab]; kernel_rfl
theorem fc (a:Addr):PX P Ja (.pointer (some a)) (.pointer none)=some false∧PX P Ja (.pointer none) (.pointer none)=some true∧PX P EY (.pointer (some a)) (.pointer none)=some false∧PX P EY (.pointer none) (.pointer none)=some true∧PX P Fw (.pointer (some a)) (.pointer none)=some false∧PX P Fw (.pointer none) (.pointer none)=some true∧PX P Ch (.pointer (some a)) (.pointer none)=some false∧PX P Ch (.pointer none) (.pointer none)=some true∧PX P Nj (.pointer (some a)) (.pointer none)=some false∧PX P Nj (.pointer none) (.pointer none)=some true:=by
 refine ⟨?_, ?_, ?_, ?_, ?_, ?_, ?_, ?_, ?_, ?_⟩ <;> kernel_rfl
abbrev Yv:FuncId:=9
abbrev Ng:FuncId:=99
abbrev Pn:FuncId:=166
abbrev OL:FuncId:=206
section
local instance yv:Kn:=⟨false⟩
variable [Bb]
theorem Xa (k:Nat)  (σ:Aa):FL (k+1)  σ=Y6 k (B6 k) (Hb k) (C3 k) (Ed k) (C4 k) (Hv k)  σ:=by
 simp only[B6,Hb,C3,Ed,C4,Hv,FL,Ab]; kernel_rfl
end
end Go.Proofs.YtlaplcglpnlieaaGreat
