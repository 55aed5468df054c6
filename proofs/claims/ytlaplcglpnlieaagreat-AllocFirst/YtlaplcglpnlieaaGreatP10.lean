/-
 PRINTED BY A PROGRAM OF THIS SESSION'S OWN (gen2.py): the unfolding equations.
-/
import Derived.Test.YtlaplcglpnlieaaGreatP9
set_option maxRecDepth 100000
set_option linter.unusedVariables false
set_option linter.unusedSimpArgs false
set_option linter.unusedSectionVars false
namespace Go.Proofs.YtlaplcglpnlieaaGreat
open Go Go.AX
section
variable [AL] [Kn]
theorem Lv (k n:Nat) (p0:Option Addr) (c1:Nat) (c2:Nat) (i3:Int) (i4:Int) (x18:Bool) (x19:Int) (x20:Int) (σ:Aa):EB k (n+1) p0 c1 c2 i3 i4 x18 x19 x20 σ=JB k n (EB k) p0 c1 c2 i3 i4 x18 x19 x20 σ:=by
 simp only[EB,Ab]; kernel_rfl
theorem Lw (k n:Nat) (b0:Bool) (p1:Option Addr) (c2:Nat) (c3:Nat) (i4:Int) (i5:Int) (i6:Int) (x21:Int) (σ:Aa):EC k (n+1) b0 p1 c2 c3 i4 i5 i6 x21 σ=JC k n (EC k) b0 p1 c2 c3 i4 i5 i6 x21 σ:=by
 simp only[EC,Ab]; kernel_rfl
theorem TB (k:Nat) (x0:Int) (x1:Int) (x2:Bool) (x3:Option Addr × Nat × Nat) (x4_0:Int) (x4_1:Int) (x4_2:Int) (σ:Aa):Jj (k+1) x0 x1 x2 x3 x4_0 x4_1 x4_2 σ=PJ k (AN k) (Es k) (EB k) (EC k) (Fi k) (KJ k) (KK k) x0 x1 x2 x3 x4_0 x4_1 x4_2 σ:=by
 simp only[AN,Es,Jj,EB,EC,Fi,KJ,KK,Ab]; kernel_rfl
theorem Ro (k:Nat) (x0:Int) (σ:Aa):G3 (k+1) x0 σ=SA k (LZ k) x0 σ:=by
 simp only[G3,LZ,Ab]; kernel_rfl
theorem aa (k:Nat) (x0:Int) (σ:Aa):Kx (k+1) x0 σ=Y9 k  x0 σ:=by
 simp only[Kx,Ab]; kernel_rfl
theorem Qa (k n:Nat) (p0:Option Addr) (c1:Nat) (c2:Nat) (p3:Option Addr) (p4:Option Addr) (p5:Option Addr) (p6:Option Addr) (x18:Int) (σ:Aa):G4 k (n+1) p0 c1 c2 p3 p4 p5 p6 x18 σ=Pa k n (G4 k) (Nh k) p0 c1 c2 p3 p4 p5 p6 x18 σ:=by
 simp only[G4,Nh,Ab]; kernel_rfl
theorem Zl (k:Nat) (x0:Int) (x1:Int) (x2:Int) (x3:Option Addr × Nat × Nat) (σ:Aa):KK (k+1) x0 x1 x2 x3 σ=WL k (GK k) (G3 k) (OE k) (Lx k) (G4 k) (Kx k) (Ky k) x0 x1 x2 x3 σ:=by
 simp only[GK,G3,OE,Lx,KK,G4,Kx,Ky,Ab]; kernel_rfl
theorem Ty (k:Nat) (x0_0:Int) (x0_1:Int) (x0_2:Int) (σ:Aa):Es (k+1) x0_0 x0_1 x0_2 σ=SC k (Fm k) x0_0 x0_1 x0_2 σ:=by
 simp only[Fm,Es,Ab]; kernel_rfl
theorem LY (k n:Nat) (p0:Option Addr) (i1:Int) (x5:Option Addr × Nat × Nat) (x6:Int) (σ:Aa):Hq k (n+1) p0 i1 x5 x6 σ=LJ k n (AA k) (DE k) (Bx k) (CE k) (Hq k) p0 i1 x5 x6 σ:=by
 simp only[AA,DE,Bx,CE,Hq,Ab]; kernel_rfl
theorem Zk (k:Nat) (x0:Option Addr) (x1:Int) (σ:Aa):KJ (k+1) x0 x1 σ=WK k (Hq k) x0 x1 σ:=by
 simp only[KJ,Hq,Ab]; kernel_rfl
theorem Kr (k:Nat) (x0:Option Addr) (x1_0:Int) (x1_1:Int) (x1_2:Int) (σ:Aa):AN (k+1) x0 x1_0 x1_1 x1_2 σ=Iu k (Ch k) (DD k) (Ci k) (Co k) (Bx k) (Fm k) (Es k) x0 x1_0 x1_1 x1_2 σ:=by
 simp only[AN,Ch,DD,Ci,Co,Bx,Fm,Es,Ab]; kernel_rfl
theorem N9 (k:Nat) (x0:Option Addr) (σ:Aa):AA (k+1) x0 σ=LR k (AH k) x0 σ:=by
 simp only[AA,AH,Ab]; kernel_rfl
theorem OB (k:Nat) (x0:Option Addr) (x1:Int) (σ:Aa):CE (k+1) x0 x1 σ=MP k (AA k) x0 x1 σ:=by
 simp only[AA,CE,Ab]; kernel_rfl
theorem Tx (k:Nat) (x0_0:Int) (x0_1:Int) (x0_2:Int) (σ:Aa):Fm (k+1) x0_0 x0_1 x0_2 σ=SB k  x0_0 x0_1 x0_2 σ:=by
 simp only[Fm,Ab]; kernel_rfl
theorem Kv (k:Nat) (x0:Option Addr) (x1:Int) (σ:Aa):Bx (k+1) x0 x1 σ=JS k (AA k) x0 x1 σ:=by
 simp only[AA,Bx,Ab]; kernel_rfl
theorem I5 (k n:Nat) (h0:Nat) (c1:Nat) (i2:Int) (x10:Int) (σ:Aa):Di k (n+1) h0 c1 i2 x10 σ=Hy k n (Di k) h0 c1 i2 x10 σ:=by
 simp only[Di,Ab]; kernel_rfl
theorem I4 (k n:Nat) (p0:Option Addr) (h1:Nat) (c2:Nat) (p3:Option Addr) (c4:Nat) (c5:Nat) (i6:Int) (x20:Int) (σ:Aa):Dh k (n+1) p0 h1 c2 p3 c4 c5 i6 x20 σ=Hx k n (Dh k) (Di k) (BS k) p0 h1 c2 p3 c4 c5 i6 x20 σ:=by
 simp only[Dh,Di,BS,Ab]; kernel_rfl
theorem H8 (k:Nat) (x0:Option Addr) (x1:Int) (σ:Aa):DT (k+1) x0 x1 σ=Hw k (Dh k) (Ce k) (BU k) x0 x1 σ:=by
 simp only[DT,Dh,Ce,BU,Ab]; kernel_rfl
theorem XS (k:Nat) (x0:Option Addr × Nat × Nat) (σ:Aa):Lx (k+1) x0 σ=V8 k  x0 σ:=by
 simp only[Lx,Ab]; kernel_rfl
theorem ZY (k:Nat) (x0:Int) (σ:Aa):OE (k+1) x0 σ=Y7 k  x0 σ:=by
 simp only[OE,Ab]; kernel_rfl
theorem Ul (k:Nat) (x0:Option Addr) (x1:Int) (x2:Int) (σ:Aa):GK (k+1) x0 x1 x2 σ=Uh k (DD k) (AA k) x0 x1 x2 σ:=by
 simp only[GK,DD,AA,Ab]; kernel_rfl
theorem ae (k:Nat) (x0:Option Addr) (x1:Int) (x2:Int) (σ:Aa):Ky (k+1) x0 x1 x2 σ=YA k (Am k) x0 x1 x2 σ:=by
 simp only[Am,Ky,Ab]; kernel_rfl
theorem Zm (k:Nat) (x0:Option Addr) (x1:Option Addr) (x2:Option Addr) (x3:Option Addr) (x4_0:Int) (x4_1:Int) (x4_2:Int) (x4_3:Int) (x4_4:Int) (x4_5:Int) (σ:Aa):Nh (k+1) x0 x1 x2 x3 x4_0 x4_1 x4_2 x4_3 x4_4 x4_5 σ=WM k (AN k) (ES k) (Cn k) (DF k) (Co k) (F3 k) (Gs k) (OG k) (CM k) (Fo k) (Dv k) (Ei k) (EL k) (Ec k) (EV k) x0 x1 x2 x3 x4_0 x4_1 x4_2 x4_3 x4_4 x4_5 σ:=by
 simp only[AN,ES,Cn,DF,Co,F3,Gs,OG,Nh,CM,Fo,Dv,Ei,EL,Ec,EV,Ab]; kernel_rfl
theorem O9 (k:Nat) (x0:Option Addr) (x1:Int) (x2:Int) (σ:Aa):Cn (k+1) x0 x1 x2 σ=MN k (DU k) x0 x1 x2 σ:=by
 simp only[Cn,DU,Ab]; kernel_rfl
theorem OA (k:Nat) (x0:Option Addr) (x1:Int) (x2_0:Int) (x2_1:Int) (x2_2:Int) (σ:Aa):Co (k+1) x0 x1 x2_0 x2_1 x2_2 σ=MO k (FN k) (AH k) (Fm k) (Es k) (HU k) (C9 k) x0 x1 x2_0 x2_1 x2_2 σ:=by
 simp only[Co,FN,AH,Fm,Es,HU,C9,Ab]; kernel_rfl
theorem Jf (k n:Nat) (p0:Option Addr) (h1:Nat) (h2:Nat) (p3:Option Addr) (c4:Nat) (c5:Nat) (i6:Int) (x21:Int) (σ:Aa):CU k (n+1) p0 h1 h2 p3 c4 c5 i6 x21 σ=Ig k n (C4 k) (CU k) (BS k) p0 h1 h2 p3 c4 c5 i6 x21 σ:=by
 simp only[C4,CU,BS,Ab]; kernel_rfl
theorem Ik (k:Nat) (x0:Option Addr) (x1:Int) (σ:Aa):DE (k+1) x0 x1 σ=Iy k (C4 k) (CU k) (Ce k) (BU k) x0 x1 σ:=by
 simp only[DE,C4,CU,Ce,BU,Ab]; kernel_rfl
theorem KY (k:Nat) (x0:Option Addr) (x1:Int) (x2:Int) (x3:Int) (σ:Aa):Du (k+1) x0 x1 x2 x3 σ=Jb k (DU k) x0 x1 x2 x3 σ:=by
 simp only[Du,DU,Ab]; kernel_rfl
theorem Pn (k:Nat) (x0:Option Addr) (x1:Int) (σ:Aa):DF (k+1) x0 x1 σ=NQ k (EK k) (BS k) (FP k) (C9 k) x0 x1 σ:=by
 simp only[DF,EK,BS,FP,C9,Ab]; kernel_rfl
theorem KZ (k n:Nat) (p0:Option Addr) (i1:Int) (x6:Int) (σ:Aa):Er k (n+1) p0 i1 x6 σ=Jc k n (Er k) p0 i1 x6 σ:=by
 simp only[Er,Ab]; kernel_rfl
theorem SJ (k:Nat) (x0:Option Addr) (x1:Int) (σ:Aa):F3 (k+1) x0 x1 σ=Pg k (Ce k) (Er k) (FO k) (CY k) x0 x1 σ:=by
 simp only[Ce,F3,Er,FO,CY,Ab]; kernel_rfl
theorem VG (k:Nat) (x0:Int) (x1:Int) (σ:Aa):LZ (k+1) x0 x1 σ=Wb k (EE k) x0 x1 σ:=by
 simp only[LZ,EE,Ab]; kernel_rfl
theorem Pp (k:Nat) (x0:Option Addr) (σ:Aa):AH (k+1) x0 σ=NS k  x0 σ:=by
 simp only[AH,Ab]; kernel_rfl
theorem Ur (k:Nat) (x0:Option Addr) (σ:Aa):Am (k+1) x0 σ=QQ k  x0 σ:=by
 simp only[Am,Ab]; kernel_rfl
theorem TC (k:Nat) (x0:Option Addr) (x1:Int) (x2:Int) (σ:Aa):CM (k+1) x0 x1 x2 σ=PK k (Am k) (Ct k) (Gf k) x0 x1 x2 σ:=by
 simp only[CM,Am,Ct,Gf,Ab]; kernel_rfl
theorem IU (k n:Nat) (p0:Option Addr) (i1:Int) (i2:Int) (x9:Int) (σ:Aa):Cq k (n+1) p0 i1 i2 x9 σ=GS k n (Cq k) p0 i1 i2 x9 σ:=by
 simp only[Cq,Ab]; kernel_rfl
theorem IV (k n:Nat) (p0:Option Addr) (i1:Int) (i2:Int) (i3:Int) (x10:Int) (σ:Aa):Cr k (n+1) p0 i1 i2 i3 x10 σ=GU k n (Cr k) p0 i1 i2 i3 x10 σ:=by
 simp only[Cr,Ab]; kernel_rfl
theorem Qb (k:Nat) (x0:Option Addr) (x1:Int) (x2:Int) (x3:Int) (σ:Aa):Ea (k+1) x0 x1 x2 x3 σ=Mt k (Cq k) (Cr k) (Am k) (Ct k) (Gf k) x0 x1 x2 x3 σ:=by
 simp only[Ea,Cq,Cr,Am,Ct,Gf,Ab]; kernel_rfl
theorem Kw (k n:Nat) (p0:Option Addr) (i1:Int) (i2:Int) (x6:Int) (σ:Aa):CZ k (n+1) p0 i1 i2 x6 σ=Iz k n (CZ k) p0 i1 i2 x6 σ:=by
 simp only[CZ,Ab]; kernel_rfl
theorem RW (k:Nat) (x0:Option Addr) (x1:Int) (σ:Aa):Ei (k+1) x0 x1 σ=O5 k (Am k) (Eh k) (CZ k) (BZ k) (Ct k) x0 x1 σ:=by
 simp only[Am,Eh,Ei,CZ,BZ,Ct,Ab]; kernel_rfl
theorem M1 (k n:Nat) (p0:Option Addr) (i1:Int) (i2:Int) (x8:Int) (σ:Aa):ET k (n+1) p0 i1 i2 x8 σ=Ki k n (ET k) p0 i1 i2 x8 σ:=by
 simp only[ET,Ab]; kernel_rfl
theorem Um (k:Nat) (x0:Option Addr) (x1:Int) (x2:Int) (σ:Aa):Gs (k+1) x0 x1 x2 σ=QM k (ET k) (FO k) (CY k) (GB k) x0 x1 x2 σ:=by
 simp only[Gs,ET,FO,CY,GB,Ab]; kernel_rfl
theorem L5 (k n:Nat) (p0:Option Addr) (i1:Int) (i2:Int) (i3:Int) (x8:Int) (σ:Aa):DN k (n+1) p0 i1 i2 i3 x8 σ=JG k n (DN k) p0 i1 i2 i3 x8 σ:=by
 simp only[DN,Ab]; kernel_rfl
theorem TG (k:Nat) (x0:Option Addr) (x1:Int) (x2:Int) (σ:Aa):EL (k+1) x0 x1 x2 σ=PO k (Am k) (DN k) (BZ k) (Ct k) (Gf k) x0 x1 x2 σ:=by
 simp only[Am,EL,DN,BZ,Ct,Gf,Ab]; kernel_rfl
theorem TF (k:Nat) (x0:Option Addr) (x1:Int) (x2_0:Int) (x2_1:Int) (x2_2:Int) (σ:Aa):Dv (k+1) x0 x1 x2_0 x2_1 x2_2 σ=PN k (Am k) (HB k) (GM k) (Ge k) x0 x1 x2_0 x2_1 x2_2 σ:=by
 simp only[Am,Dv,HB,GM,Ge,Ab]; kernel_rfl
theorem Uq (k:Nat) (x0:Option Addr) (x1:Int) (σ:Aa):Fo (k+1) x0 x1 σ=QP k (Cs k) (I8 k) (FQ k) x0 x1 σ:=by
 simp only[Cs,Fo,I8,FQ,Ab]; kernel_rfl
theorem SK (k:Nat) (x0:Option Addr) (σ:Aa):Bp (k+1) x0 σ=Ph k (Am k) x0 σ:=by
 simp only[Bp,Am,Ab]; kernel_rfl
theorem Ni (k n:Nat) (p0:Option Addr) (x3:Option Addr × Nat × Nat) (x4:Int) (σ:Aa):F4 k (n+1) p0 x3 x4 σ=Li k n (F4 k) (Am k) p0 x3 x4 σ:=by
 simp only[F4,Am,Ab]; kernel_rfl
theorem Vu (k:Nat) (x0:Option Addr) (σ:Aa):I7 (k+1) x0 σ=RL k (F4 k) x0 σ:=by
 simp only[I7,F4,Ab]; kernel_rfl
theorem TI (k:Nat) (x0:Option Addr) (x1:Int) (σ:Aa):Bi (k+1) x0 x1 σ=PS k (Am k) x0 x1 σ:=by
 simp only[Am,Bi,Ab]; kernel_rfl
theorem TH (k:Nat) (x0:Option Addr) (x1:Int) (σ:Aa):BX (k+1) x0 x1 σ=PQ k (Am k) x0 x1 σ:=by
 simp only[Am,BX,Ab]; kernel_rfl
theorem Nf (k:Nat) (x0:Option Addr) (x1:Int) (σ:Aa):Ce (k+1) x0 x1 σ=Lg k (E4 k) (AH k) x0 x1 σ:=by
 simp only[Ce,E4,AH,Ab]; kernel_rfl
theorem GY (k n:Nat) (p0:Option Addr) (i1:Int) (x5:Option Addr × Nat × Nat) (x6:Int) (σ:Aa):Eb k (n+1) p0 i1 x5 x6 σ=Gr k n (Am k) (Eb k) p0 i1 x5 x6 σ:=by
 simp only[Am,Eb,Ab]; kernel_rfl
theorem RU (k:Nat) (x0:Option Addr) (x1:Int) (σ:Aa):Eh (k+1) x0 x1 σ=O4 k (Eb k) x0 x1 σ:=by
 simp only[Eh,Eb,Ab]; kernel_rfl
theorem M6 (k n:Nat) (p0:Option Addr) (p1:Option Addr) (c2:Nat) (c3:Nat) (x5:Option Addr × Nat × Nat) (x6:Int) (x8:Int) (σ:Aa):Dk k (n+1) p0 p1 c2 c3 x5 x6 x8 σ=Kl k n (Dk k) (Cs k) (BL k) p0 p1 c2 c3 x5 x6 x8 σ:=by
 simp only[Dk,Cs,BL,Ab]; kernel_rfl
theorem Up (k:Nat) (x0:Option Addr) (x1:Int) (σ:Aa):HA (k+1) x0 x1 σ=QO k (Dk k) (Eh k) (Bi k) x0 x1 σ:=by
 simp only[HA,Dk,Eh,Bi,Ab]; kernel_rfl
theorem L0 (k n:Nat) (p0:Option Addr) (i1:Int) (i2:Int) (x7:Bool) (x8:Int) (σ:Aa):DM k (n+1) p0 i1 i2 x7 x8 σ=JF k n (H9 k) (DM k) p0 i1 i2 x7 x8 σ:=by
 simp only[H9,DM,Ab]; kernel_rfl
theorem Lz (k n:Nat) (p0:Option Addr) (i1:Int) (x5:Option Addr × Nat × Nat) (x6:Int) (σ:Aa):DL k (n+1) p0 i1 x5 x6 σ=JE k n (DL k) (DM k) p0 i1 x5 x6 σ:=by
 simp only[DL,DM,Ab]; kernel_rfl
theorem TE (k:Nat) (x0:Option Addr) (x1:Int) (σ:Aa):GX (k+1) x0 x1 σ=PM k (DL k) (Bi k) x0 x1 σ:=by
 simp only[GX,DL,Bi,Ab]; kernel_rfl
theorem KX (k:Nat) (x0:Option Addr) (σ:Aa):Ch (k+1) x0 σ=Ja k  x0 σ:=by
 simp only[Ch,Ab]; kernel_rfl
theorem Pk (k:Nat)  (σ:Aa):DD (k+1)  σ=NO k   σ:=by
 simp only[DD,Ab]; kernel_rfl
theorem IQ (k n:Nat) (p0:Option Addr) (i1:Int) (x7:Int) (σ:Aa):BO k (n+1) p0 i1 x7 σ=GR k n (BO k) (AA k) (Du k) p0 i1 x7 σ:=by
 simp only[BO,AA,Du,Ab]; kernel_rfl
theorem Kt (k:Nat) (x0:Option Addr) (x1:Int) (σ:Aa):BR (k+1) x0 x1 σ=Iw k (BO k) x0 x1 σ:=by
 simp only[BR,BO,Ab]; kernel_rfl
theorem NA (k:Nat) (x0:Option Addr) (x1:Int) (σ:Aa):EK (k+1) x0 x1 σ=LS k (G2 k) (AH k) x0 x1 σ:=by
 simp only[G2,AH,EK,Ab]; kernel_rfl
theorem Tz (k:Nat) (x0:Int) (σ:Aa):Ji (k+1) x0 σ=SD k  x0 σ:=by
 simp only[Ji,Ab]; kernel_rfl
theorem Lk (k:Nat) (x0:Option Addr) (x1:Int) (σ:Aa):BU (k+1) x0 x1 σ=KH k (CG k) x0 x1 σ:=by
 simp only[CG,BU,Ab]; kernel_rfl
theorem Pq (k:Nat) (x0:Option Addr) (x1:Int) (σ:Aa):BS (k+1) x0 x1 σ=NT k (Es k) (Ji k) x0 x1 σ:=by
 simp only[BS,Es,Ji,Ab]; kernel_rfl
theorem Q8 (k:Nat) (x0:Option Addr) (σ:Aa):CH (k+1) x0 σ=MS k (Am k) x0 σ:=by
 simp only[Am,CH,Ab]; kernel_rfl
theorem Qc (k:Nat) (x0:Option Addr) (x1_0:Int) (x1_1:Int) (x1_2:Int) (σ:Aa):Ec (k+1) x0 x1_0 x1_1 x1_2 σ=Mv k (Ea k) (EI k) (HC k) (Ge k) (BL k) (CH k) (Dw k) (DG k) (EW k) (Ax k) (Et k) x0 x1_0 x1_1 x1_2 σ:=by
 simp only[Ea,EI,HC,Ge,BL,Ec,CH,Dw,DG,EW,Ax,Et,Ab]; kernel_rfl
theorem ZZ (k:Nat) (x0:Option Addr) (x1:Int) (σ:Aa):OG (k+1) x0 x1 σ=Y8 k (I7 k) x0 x1 σ:=by
 simp only[OG,I7,Ab]; kernel_rfl
theorem PY (k:Nat) (x0:Option Addr) (σ:Aa):ES (k+1) x0 σ=Ms k (Ch k) x0 σ:=by
 simp only[ES,Ch,Ab]; kernel_rfl
theorem Qd (k:Nat) (x0:Option Addr) (σ:Aa):EV (k+1) x0 σ=Mw k (CH k) x0 σ:=by
 simp only[CH,EV,Ab]; kernel_rfl
theorem I6 (k n:Nat) (p0:Option Addr) (i1:Int) (h2:Nat) (i3:Int) (x54:Int) (σ:Aa):Dj k (n+1) p0 i1 h2 i3 x54 σ=Hz k n (Dj k) p0 i1 h2 i3 x54 σ:=by
 simp only[Dj,Ab]; kernel_rfl
theorem OC (k:Nat) (x0:Option Addr) (x1:Int) (x2:Int) (x3_0:Int) (x3_1:Int) (x4_0:Int) (x4_1:Int) (σ:Aa):DU (k+1) x0 x1 x2 x3_0 x3_1 x4_0 x4_1 σ=MQ k (Dj k) (AH k) (CG k) (GB k) (BW k) x0 x1 x2 x3_0 x3_1 x4_0 x4_1 σ:=by
 simp only[DU,Dj,AH,CG,GB,BW,Ab]; kernel_rfl
theorem Jg (k n:Nat) (p0:Option Addr) (i1:Int) (i2:Int) (i3:Int) (x10:Int) (σ:Aa):CV k (n+1) p0 i1 i2 i3 x10 σ=Ih k n (FM k) (CV k) p0 i1 i2 i3 x10 σ:=by
 simp only[FM,CV,Ab]; kernel_rfl
theorem Po (k:Nat) (x0:Option Addr) (x1:Int) (x2:Int) (x3:Int) (σ:Aa):FN (k+1) x0 x1 x2 x3 σ=NR k (CV k) (CY k) x0 x1 x2 x3 σ:=by
 simp only[FN,CV,CY,Ab]; kernel_rfl
theorem RT (k:Nat) (x0_0:Int) (x0_1:Int) (x0_2:Int) (σ:Aa):HU (k+1) x0_0 x0_1 x0_2 σ=Rn k  x0_0 x0_1 x0_2 σ:=by
 simp only[HU,Ab]; kernel_rfl
theorem Pv (k:Nat) (x0:Option Addr) (x1:Int) (x2:Int) (σ:Aa):C9 (k+1) x0 x1 x2 σ=NY k (EM k) (FT k) x0 x1 x2 σ:=by
 simp only[C9,EM,FT,Ab]; kernel_rfl
theorem Je (k:Nat) (x0:Int) (c0:Option Addr) (c1:Option Addr) (σ:Aa):C4 (k+1) x0 c0 c1 σ=Ie k  x0 c0 c1 σ:=by
 simp only[C4,Ab]; kernel_rfl
theorem Pu (k:Nat) (x0:Option Addr) (x1:Int) (σ:Aa):FR (k+1) x0 x1 σ=NX k (Da k) (Dx k) x0 x1 σ:=by
 simp only[FR,Da,Dx,Ab]; kernel_rfl
theorem Ps (k:Nat) (x0:Option Addr) (x1:Int) (x2:Int) (σ:Aa):FP (k+1) x0 x1 x2 σ=NV k  x0 x1 x2 σ:=by
 simp only[FP,Ab]; kernel_rfl
theorem Vt (k:Nat) (x0:Option Addr) (x1:Int) (x2:Bool) (σ:Aa):FO (k+1) x0 x1 x2 σ=RK k (AH k) (CG k) x0 x1 x2 σ:=by
 simp only[FO,AH,CG,Ab]; kernel_rfl
theorem Jh (k n:Nat) (p0:Option Addr) (i1:Int) (x5:Int) (σ:Aa):DI k (n+1) p0 i1 x5 σ=Ii k n (DI k) p0 i1 x5 σ:=by
 simp only[DI,Ab]; kernel_rfl
theorem Pr (k:Nat) (x0:Option Addr) (x1:Int) (σ:Aa):CY (k+1) x0 x1 σ=NU k (DI k) x0 x1 σ:=by
 simp only[CY,DI,Ab]; kernel_rfl
theorem L8 (k:Nat) (x0:Option Addr × Nat × Nat) (x1:Int) (σ:Aa):EE (k+1) x0 x1 σ=JJ k (FU k) x0 x1 σ:=by
 simp only[EE,FU,Ab]; kernel_rfl
theorem OJ (k:Nat) (x0:Option Addr) (σ:Aa):BV (k+1) x0 σ=MY k  x0 σ:=by
 simp only[BV,Ab]; kernel_rfl
theorem TK (k:Nat) (x0:Option Addr) (x1:Int) (σ:Aa):Ct (k+1) x0 x1 σ=PU k  x0 x1 σ:=by
 simp only[Ct,Ab]; kernel_rfl
theorem XW (k:Nat) (x0:Int) (σ:Aa):Gf (k+1) x0 σ=VC k  x0 σ:=by
 simp only[Gf,Ab]; kernel_rfl
theorem L6 (k n:Nat) (p0:Option Addr) (i1:Int) (x5:Int) (σ:Aa):DO k (n+1) p0 i1 x5 σ=JH k n (DO k) p0 i1 x5 σ:=by
 simp only[DO,Ab]; kernel_rfl
theorem TJ (k:Nat) (x0:Option Addr) (x1:Int) (σ:Aa):BZ (k+1) x0 x1 σ=PT k (DO k) x0 x1 σ:=by
 simp only[BZ,DO,Ab]; kernel_rfl
theorem T0 (k:Nat) (x0:Int) (σ:Aa):GB (k+1) x0 σ=SE k  x0 σ:=by
 simp only[GB,Ab]; kernel_rfl
theorem XU (k:Nat) (x0_0:Int) (x0_1:Int) (x0_2:Int) (σ:Aa):Ge (k+1) x0_0 x0_1 x0_2 σ=VA k  x0_0 x0_1 x0_2 σ:=by
 simp only[Ge,Ab]; kernel_rfl
theorem M7 (k n:Nat) (p0:Option Addr) (i1:Int) (i2:Int) (h3:Nat) (x10:Int) (σ:Aa):Dl k (n+1) p0 i1 i2 h3 x10 σ=Km k n (Dl k) (BL k) p0 i1 i2 h3 x10 σ:=by
 simp only[Dl,BL,Ab]; kernel_rfl
theorem Us (k:Nat) (x0:Option Addr) (x1:Int) (x2_0:Int) (x2_1:Int) (x2_2:Int) (x3:Int) (σ:Aa):HB (k+1) x0 x1 x2_0 x2_1 x2_2 x3 σ=QR k (BZ k) (Dl k) (EI k) (HC k) (BL k) x0 x1 x2_0 x2_1 x2_2 x3 σ:=by
 simp only[BZ,HB,Dl,EI,HC,BL,Ab]; kernel_rfl
theorem Nj (k n:Nat) (p0:Option Addr) (h1:Nat) (x4:Int) (σ:Aa):E5 k (n+1) p0 h1 x4 σ=Lj k n (E5 k) p0 h1 x4 σ:=by
 simp only[E5,Ab]; kernel_rfl
theorem Vw (k:Nat) (x0:Option Addr) (x1_0:Int) (x1_1:Int) (x1_2:Int) (x1_3:Int) (x1_4:Int) (x1_5:Option Addr × Nat × Nat) (x1_6:Option Addr × Nat × Nat) (x1_7:Bool) (σ:Aa):GM (k+1) x0 x1_0 x1_1 x1_2 x1_3 x1_4 x1_5 x1_6 x1_7 σ=RP k (E5 k) x0 x1_0 x1_1 x1_2 x1_3 x1_4 x1_5 x1_6 x1_7 σ:=by
 simp only[GM,E5,Ab]; kernel_rfl
theorem TL (k:Nat) (x0:Option Addr) (x1:Int) (σ:Aa):FQ (k+1) x0 x1 σ=PV k (Cs k) (Am k) x0 x1 σ:=by
 simp only[Cs,Am,FQ,Ab]; kernel_rfl
theorem Vv (k:Nat) (x0:Option Addr) (x1:Int) (σ:Aa):I8 (k+1) x0 x1 σ=RN k  x0 x1 σ:=by
 simp only[I8,Ab]; kernel_rfl
theorem Ly (k n:Nat) (p0:Option Addr) (i1:Int) (x5:Int) (σ:Aa):ED k (n+1) p0 i1 x5 σ=JD k n (ED k) p0 i1 x5 σ:=by
 simp only[ED,Ab]; kernel_rfl
theorem TD (k:Nat) (x0:Option Addr) (x1:Int) (σ:Aa):Cs (k+1) x0 x1 σ=PL k (ED k) (Am k) x0 x1 σ:=by
 simp only[Cs,ED,Am,Ab]; kernel_rfl
theorem PZ (k:Nat) (x0:Option Addr) (x1:Int) (σ:Aa):G2 (k+1) x0 x1 σ=OZ k (AH k) (FR k) x0 x1 σ:=by
 simp only[G2,AH,FR,Ab]; kernel_rfl
theorem Pm (k:Nat) (x0:Option Addr) (x1:Int) (σ:Aa):FM (k+1) x0 x1 σ=NP k (AH k) (BS k) (Fs k) x0 x1 σ:=by
 simp only[FM,AH,BS,Fs,Ab]; kernel_rfl
theorem M5 (k n:Nat) (p0:Option Addr) (i1:Int) (x6:Int) (σ:Aa):EU k (n+1) p0 i1 x6 σ=Kk k n (EU k) (BL k) p0 i1 x6 σ:=by
 simp only[EU,BL,Ab]; kernel_rfl
theorem Uo (k:Nat) (x0:Option Addr) (x1:Int) (σ:Aa):H9 (k+1) x0 x1 σ=QN k (EU k) (Am k) x0 x1 σ:=by
 simp only[H9,EU,Am,Ab]; kernel_rfl
theorem XV (k:Nat) (x0_0:Int) (x0_1:Int) (x0_2:Int) (σ:Aa):BL (k+1) x0_0 x0_1 x0_2 σ=VB k (Ge k) x0_0 x0_1 x0_2 σ:=by
 simp only[Ge,BL,Ab]; kernel_rfl
theorem FC (k n:Nat) (p0:Option Addr) (i1:Int) (x7:Option Addr × Nat × Nat) (x8:Int) (x9:Int) (σ:Aa):BJ k (n+1) p0 i1 x7 x8 x9 σ=Fk k n (BJ k) (CI k) p0 i1 x7 x8 x9 σ:=by
 simp only[BJ,CI,Ab]; kernel_rfl
theorem Ng (k:Nat) (x0:Option Addr) (x1:Int) (x2:Int) (σ:Aa):E4 (k+1) x0 x1 x2 σ=Lh k (BJ k) (CI k) x0 x1 x2 σ:=by
 simp only[E4,BJ,CI,Ab]; kernel_rfl
theorem OD (k:Nat) (x0:Option Addr) (x1:Int) (σ:Aa):CG (k+1) x0 x1 σ=MR k (AH k) x0 x1 σ:=by
 simp only[AH,CG,Ab]; kernel_rfl
theorem XT (k:Nat) (x0_0:Int) (x0_1:Int) (x0_2:Int) (σ:Aa):EI (k+1) x0_0 x0_1 x0_2 σ=V9 k (BL k) x0_0 x0_1 x0_2 σ:=by
 simp only[EI,BL,Ab]; kernel_rfl
theorem Zn (k:Nat) (x0_0:Int) (x0_1:Int) (x0_2:Int) (σ:Aa):HC (k+1) x0_0 x0_1 x0_2 σ=WN k (BL k) x0_0 x0_1 x0_2 σ:=by
 simp only[HC,BL,Ab]; kernel_rfl
theorem Qg (k n:Nat) (p0:Option Addr) (i1:Int) (i2:Int) (x6:Int) (σ:Aa):Hs k (n+1) p0 i1 i2 x6 σ=Pb k n (Bi k) (Hs k) p0 i1 i2 x6 σ:=by
 simp only[Bi,Hs,Ab]; kernel_rfl
theorem We (k n:Nat) (p0:Option Addr) (i1:Int) (x5:Int) (σ:Aa):Hr k (n+1) p0 i1 x5 σ=Tw k n (Bp k) (Hr k) (Hs k) p0 i1 x5 σ:=by
 simp only[Bp,Hr,Hs,Ab]; kernel_rfl
theorem Zo (k:Nat) (x0:Option Addr) (x1:Int) (σ:Aa):Et (k+1) x0 x1 σ=WO k (Hr k) x0 x1 σ:=by
 simp only[Et,Hr,Ab]; kernel_rfl
theorem Qf (k:Nat) (x0:Option Addr) (x1:Int) (x2:Int) (x3_0:Int) (x3_1:Int) (x3_2:Int) (σ:Aa):Ax (k+1) x0 x1 x2 x3_0 x3_1 x3_2 σ=My k (CM k) (Dv k) (BX k) (EI k) x0 x1 x2 x3_0 x3_1 x3_2 σ:=by
 simp only[CM,Dv,BX,EI,Ax,Ab]; kernel_rfl
theorem Q9 (k:Nat) (x0:Option Addr) (x1_0:Int) (x1_1:Int) (x1_2:Int) (x2:Int) (σ:Aa):Dw (k+1) x0 x1_0 x1_1 x1_2 x2 σ=MT k (Ax k) (Et k) x0 x1_0 x1_1 x1_2 x2 σ:=by
 simp only[Dw,Ax,Et,Ab]; kernel_rfl
theorem IX (k n:Nat) (p0:Option Addr) (i1:Int) (h2:Nat) (i3:Int) (p4:Option Addr) (c5:Nat) (c6:Nat) (x10:Int) (σ:Aa):Cv k (n+1) p0 i1 h2 i3 p4 c5 c6 x10 σ=GW k n (Cv k) (Ax k) p0 i1 h2 i3 p4 c5 c6 x10 σ:=by
 simp only[Cv,Ax,Ab]; kernel_rfl
theorem IW (k n:Nat) (p0:Option Addr) (i1:Int) (h2:Nat) (x8:Int) (σ:Aa):Cu k (n+1) p0 i1 h2 x8 σ=GV k n (Bp k) (BX k) (Bi k) (Cu k) (Cv k) (J5 k) p0 i1 h2 x8 σ:=by
 simp only[Bp,BX,Bi,Cu,Cv,J5,Ab]; kernel_rfl
theorem Qe (k:Nat) (x0:Option Addr) (x1_0:Int) (x1_1:Int) (x1_2:Int) (x2:Int) (σ:Aa):EW (k+1) x0 x1_0 x1_1 x1_2 x2 σ=Mx k (Dw k) (Cu k) (Fq k) x0 x1_0 x1_1 x1_2 x2 σ:=by
 simp only[Dw,EW,Cu,Fq,Ab]; kernel_rfl
theorem I9 (k n:Nat) (p0:Option Addr) (i1:Int) (p2:Option Addr) (c3:Nat) (c4:Nat) (x7:Int) (σ:Aa):CO k (n+1) p0 i1 p2 c3 c4 x7 σ=G8 k n (CO k) p0 i1 p2 c3 c4 x7 σ:=by
 simp only[CO,Ab]; kernel_rfl
theorem IA (k n:Nat) (p0:Option Addr) (i1:Int) (p2:Option Addr) (c3:Nat) (c4:Nat) (x10:Int) (x11:Int) (σ:Aa):CP k (n+1) p0 i1 p2 c3 c4 x10 x11 σ=G9 k n (CP k) p0 i1 p2 c3 c4 x10 x11 σ:=by
 simp only[CP,Ab]; kernel_rfl
theorem P6 (k:Nat) (x0:Option Addr) (x1:Int) (σ:Aa):DG (k+1) x0 x1 σ=Lt k (CO k) (CP k) (Fp k) x0 x1 σ:=by
 simp only[DG,CO,CP,Fp,Ab]; kernel_rfl
theorem GL (k:Nat) (x0:Option Addr × Nat × Nat) (x1:Value) (σ:Aa):BW (k+1) x0 x1 σ=Fl k (C3 k) x0 x1 σ:=by
 simp only[BW,C3,Ab]; kernel_rfl
theorem M4 (k:Nat) (x0_0:Int) (x0_1:Int) (σ:Aa):CF (k+1) x0_0 x0_1 σ=Kj k  x0_0 x0_1 σ:=by
 simp only[CF,Ab]; kernel_rfl
theorem NB (k:Nat) (x0:Option Addr) (x1:Int) (x2:Option Addr × Nat × Nat) (σ:Aa):EM (k+1) x0 x1 x2 σ=LU k (BV k) (Dx k) (Dq k) x0 x1 x2 σ:=by
 simp only[EM,BV,Dx,Dq,Ab]; kernel_rfl
theorem Px (k:Nat) (x0:Option Addr) (x1:Int) (x2:Int) (σ:Aa):FT (k+1) x0 x1 x2 σ=Oa k (CJ k) x0 x1 x2 σ:=by
 simp only[CJ,FT,Ab]; kernel_rfl
theorem NC (k:Nat) (x0:Option Addr) (x1:Int) (σ:Aa):Dx (k+1) x0 x1 σ=LV k (BV k) x0 x1 σ:=by
 simp only[BV,Dx,Ab]; kernel_rfl
theorem Pw (k:Nat) (x0:Option Addr) (x1:Int) (σ:Aa):Da (k+1) x0 x1 σ=NZ k (CJ k) x0 x1 σ:=by
 simp only[Da,CJ,Ab]; kernel_rfl
theorem L9 (k n:Nat) (p0:Option Addr) (c1:Nat) (c2:Nat) (i3:Int) (i4:Int) (x8:Int) (σ:Aa):DP k (n+1) p0 c1 c2 i3 i4 x8 σ=JK k n (DP k) p0 c1 c2 i3 i4 x8 σ:=by
 simp only[DP,Ab]; kernel_rfl
theorem NF (k:Nat) (x0:Option Addr × Nat × Nat) (x1:Int) (σ:Aa):FU (k+1) x0 x1 σ=LX k (DP k) x0 x1 σ:=by
 simp only[FU,DP,Ab]; kernel_rfl
theorem IB (k n:Nat) (p0:Option Addr) (i1:Int) (x8:Int) (σ:Aa):Dm k (n+1) p0 i1 x8 σ=H0 k n (Dm k) (Da k) p0 i1 x8 σ:=by
 simp only[Dm,Da,Ab]; kernel_rfl
theorem OH (k:Nat) (x0:Option Addr) (x1:Int) (x2:Int) (σ:Aa):Fs (k+1) x0 x1 x2 σ=MW k (Dm k) (BV k) x0 x1 x2 σ:=by
 simp only[Fs,Dm,BV,Ab]; kernel_rfl
theorem M8 (k n:Nat) (p0:Option Addr) (i1:Int) (x8:Int) (σ:Aa):Dn k (n+1) p0 i1 x8 σ=Ko k n (Dn k) (Da k) p0 i1 x8 σ:=by
 simp only[Dn,Da,Ab]; kernel_rfl
theorem OI (k:Nat) (x0:Option Addr) (x1:Int) (x2:Int) (σ:Aa):CI (k+1) x0 x1 x2 σ=MX k (Dn k) (BV k) x0 x1 x2 σ:=by
 simp only[CI,Dn,BV,Ab]; kernel_rfl
theorem QB (k:Nat) (x0:Option Addr) (x1_0:Int) (x1_1:Int) (x1_2:Int) (x2:Int) (σ:Aa):Fq (k+1) x0 x1_0 x1_1 x1_2 x2 σ=MV k (Ax k) (Et k) x0 x1_0 x1_1 x1_2 x2 σ:=by
 simp only[Fq,Ax,Et,Ab]; kernel_rfl
theorem Pt (k n:Nat) (p0:Option Addr) (c1:Nat) (c2:Nat) (x5:Option Addr × Nat × Nat) (x7:Int) (σ:Aa):GN k (n+1) p0 c1 c2 x5 x7 σ=NW k n (GN k) p0 c1 c2 x5 x7 σ:=by
 simp only[GN,Ab]; kernel_rfl
theorem XX (k:Nat) (x0:Option Addr) (x1:Int) (σ:Aa):J5 (k+1) x0 x1 σ=VD k (GX k) (GN k) x0 x1 σ:=by
 simp only[GX,J5,GN,Ab]; kernel_rfl
theorem Jy (k n:Nat) (p0:Option Addr) (x3:Option Addr × Nat × Nat) (x4:Int) (σ:Aa):Dp k (n+1) p0 x3 x4 σ=Hm k n (Bp k) (HA k) (BX k) (Bi k) (Dp k) p0 x3 x4 σ:=by
 simp only[Bp,HA,BX,Bi,Dp,Ab]; kernel_rfl
theorem QA (k:Nat) (x0:Option Addr) (σ:Aa):Fp (k+1) x0 σ=MU k (Dp k) x0 σ:=by
 simp only[Fp,Dp,Ab]; kernel_rfl
theorem EJ (k n:Nat) (p0:Option Addr) (c1:Nat) (c2:Nat) (v3:Value) (i4:Int) (x8:Int) (σ:Aa):Bn k (n+1) p0 c1 c2 v3 i4 x8 σ=DR k n (H7 k) (Bn k) p0 c1 c2 v3 i4 x8 σ:=by
 simp only[H7,Bn,Ab]; kernel_rfl
theorem HD (k:Nat) (x0:Option Addr × Nat × Nat) (x1:Value) (σ:Aa):C3 (k+1) x0 x1 σ=Gi k (Bn k) x0 x1 σ:=by
 simp only[C3,Bn,Ab]; kernel_rfl
theorem Jz (k:Nat) (x0:Option Addr × Nat × Nat) (x1:Value) (σ:Aa):Dq (k+1) x0 x1 σ=Hn k (Eu k) x0 x1 σ:=by
 simp only[Dq,Eu,Ab]; kernel_rfl
theorem L7 (k:Nat) (x0:Int) (c0:Option Addr) (σ:Aa):C0 (k+1) x0 c0 σ=JI k (EN k) x0 c0 σ:=by
 simp only[C0,EN,Ab]; kernel_rfl
theorem ND (k:Nat) (x0:Option Addr) (x1:Int) (σ:Aa):EN (k+1) x0 x1 σ=LW k (CJ k) x0 x1 σ:=by
 simp only[CJ,EN,Ab]; kernel_rfl
theorem OK (k:Nat) (x0:Option Addr) (σ:Aa):CJ (k+1) x0 σ=MZ k  x0 σ:=by
 simp only[CJ,Ab]; kernel_rfl
theorem G5 (k n:Nat) (p0:Option Addr) (c1:Nat) (c2:Nat) (v3:Value) (i4:Int) (x8:Int) (σ:Aa):C6 k (n+1) p0 c1 c2 v3 i4 x8 σ=FB k n (M0 k) (C6 k) p0 c1 c2 v3 i4 x8 σ:=by
 simp only[M0,C6,Ab]; kernel_rfl
theorem La (k:Nat) (x0:Option Addr × Nat × Nat) (x1:Value) (σ:Aa):Eu (k+1) x0 x1 σ=Jd k (C6 k) x0 x1 σ:=by
 simp only[Eu,C6,Ab]; kernel_rfl
theorem Nc (k:Nat) (x1:Option Addr) (x2:Int) (σ:Aa):CS (k+1) x1 x2 σ=Le k (AM k) (AO k) x1 x2 σ:=by
 simp only[AM,AO,CS,Ab]; kernel_rfl
theorem Ku (k:Nat) (x0:Option Addr) (x1:Option Addr × Nat × Nat) (σ:Aa):AO (k+1) x0 x1 σ=Ix k (Bq k) x0 x1 σ:=by
 simp only[Bq,AO,Ab]; kernel_rfl
theorem Gz (k n:Nat) (i0:Int) (i1:Int) (p2:Option Addr) (c3:Nat) (c4:Nat) (i5:Int) (x7:Option Addr × Nat × Nat) (x27:Int) (σ:Aa):BA k (n+1) i0 i1 p2 c3 c4 i5 x7 x27 σ=F8 k n (BA k) i0 i1 p2 c3 c4 i5 x7 x27 σ:=by
 simp only[BA,Ab]; kernel_rfl
theorem Gy (k n:Nat) (p0:Option Addr) (i1:Int) (i2:Int) (p3:Option Addr) (c4:Nat) (c5:Nat) (i6:Int) (x7:Option Addr × Nat × Nat) (x16:Int) (σ:Aa):B9 k (n+1) p0 i1 i2 p3 c4 c5 i6 x7 x16 σ=F7 k n (B9 k) (BA k) (DE k) p0 i1 i2 p3 c4 c5 i6 x7 x16 σ:=by
 simp only[B9,BA,DE,Ab]; kernel_rfl
theorem KV (k:Nat) (x0:Option Addr) (x1:Int) (x2:Int) (σ:Aa):AM (k+1) x0 x1 x2 σ=IY k (Bo k) (B9 k) x0 x1 x2 σ:=by
 simp only[Bo,AM,B9,Ab]; kernel_rfl
theorem Gj (k n:Nat) (p0:Option Addr) (h1:Nat) (x4:Int) (σ:Aa):BN k (n+1) p0 h1 x4 σ=Fj k n (BN k) (AA k) (Cn k) p0 h1 x4 σ:=by
 simp only[BN,AA,Cn,Ab]; kernel_rfl
theorem Ks (k:Nat) (x0:Option Addr) (σ:Aa):Bq (k+1) x0 σ=Iv k (BN k) x0 σ:=by
 simp only[Bq,BN,Ab]; kernel_rfl
theorem FL (k n:Nat) (p0:Option Addr) (i1:Int) (x3:Option Addr × Nat × Nat) (x10:Int) (σ:Aa):Bt k (n+1) p0 i1 x3 x10 σ=EZ k n (Bt k) (Bx k) (CE k) p0 i1 x3 x10 σ:=by
 simp only[Bt,Bx,CE,Ab]; kernel_rfl
theorem JT (k:Nat) (x0:Option Addr) (σ:Aa):Bo (k+1) x0 σ=HS k (Bt k) (AA k) x0 σ:=by
 simp only[Bo,Bt,AA,Ab]; kernel_rfl
theorem N6 (k:Nat) (x1:Option Addr) (x2:Int) (σ:Aa):Dr (k+1) x1 x2 σ=LO k (AM k) (AO k) (Bg k) x1 x2 σ:=by
 simp only[AM,AO,Dr,Bg,Ab]; kernel_rfl
theorem EO (k:Nat) (x0:Option Addr × Nat × Nat) (x1:Value) (σ:Aa):Bg (k+1) x0 x1 σ=Ee k (Ck k) x0 x1 σ:=by
 simp only[Bg,Ck,Ab]; kernel_rfl
theorem Lu (k:Nat) (x0_0:Int) (x0_1:Int) (x1_0:Int) (x1_1:Int) (σ:Aa):CR (k+1) x0_0 x0_1 x1_0 x1_1 σ=JA k  x0_0 x0_1 x1_0 x1_1 σ:=by
 simp only[CR,Ab]; kernel_rfl
theorem E6 (k n:Nat) (p0:Option Addr) (c1:Nat) (c2:Nat) (i3:Int) (v4:Value) (x7:Int) (x8:Int) (σ:Aa):AQ k (n+1) p0 c1 c2 i3 v4 x7 x8 σ=D5 k n (A7 k) (AQ k) p0 c1 c2 i3 v4 x7 x8 σ:=by
 simp only[A7,AQ,Ab]; kernel_rfl
theorem G6 (k n:Nat) (p0:Option Addr) (c1:Nat) (c2:Nat) (i3:Int) (v4:Value) (i5:Int) (x7:Int) (x8:Int) (σ:Aa):Bm k (n+1) p0 c1 c2 i3 v4 i5 x7 x8 σ=Fb k n (Bm k) (Ay k) p0 c1 c2 i3 v4 i5 x7 x8 σ:=by
 simp only[Bm,Ay,Ab]; kernel_rfl
theorem E7 (k n:Nat) (p0:Option Addr) (c1:Nat) (c2:Nat) (i3:Int) (v4:Value) (x6:Int) (σ:Aa):AR k (n+1) p0 c1 c2 i3 v4 x6 σ=D6 k n (AR k) (Bm k) (Ay k) p0 c1 c2 i3 v4 x6 σ:=by
 simp only[AR,Bm,Ay,Ab]; kernel_rfl
theorem Fc (k:Nat) (x0:Option Addr × Nat × Nat) (x1:Int) (x2:Value) (σ:Aa):Ck (k+1) x0 x1 x2 σ=Ep k (A7 k) (AQ k) (AR k) x0 x1 x2 σ:=by
 simp only[A7,Ck,AQ,AR,Ab]; kernel_rfl
theorem Df (k n:Nat) (p0:Option Addr) (c1:Nat) (c2:Nat) (i3:Int) (v4:Value) (x9:Int) (σ:Aa):AG k (n+1) p0 c1 c2 i3 v4 x9 σ=Cz k n (CX k) (AG k) p0 c1 c2 i3 v4 x9 σ:=by
 simp only[CX,AG,Ab]; kernel_rfl
theorem De (k n:Nat) (p0:Option Addr) (c1:Nat) (c2:Nat) (i3:Int) (i4:Int) (v5:Value) (x8:Int) (σ:Aa):AF k (n+1) p0 c1 c2 i3 i4 v5 x8 σ=Cy k n (AF k) (AG k) p0 c1 c2 i3 i4 v5 x8 σ:=by
 simp only[AF,AG,Ab]; kernel_rfl
theorem DQ (k:Nat) (x0:Option Addr × Nat × Nat) (x1:Int) (x2:Int) (x3:Value) (σ:Aa):A7 (k+1) x0 x1 x2 x3 σ=CN k (AF k) x0 x1 x2 x3 σ:=by
 simp only[A7,AF,Ab]; kernel_rfl
theorem Kz (k n:Nat) (p0:Option Addr) (c1:Nat) (c2:Nat) (i3:Int) (v4:Value) (x10:Int) (x11:Int) (σ:Aa):B4 k (n+1) p0 c1 c2 i3 v4 x10 x11 σ=GH k n (CX k) (B4 k) p0 c1 c2 i3 v4 x10 x11 σ:=by
 simp only[CX,B4,Ab]; kernel_rfl
theorem Gk (k n:Nat) (p0:Option Addr) (c1:Nat) (c2:Nat) (i3:Int) (x13:Int) (σ:Aa):B5 k (n+1) p0 c1 c2 i3 x13 σ=EG k n (B5 k) p0 c1 c2 i3 x13 σ:=by
 simp only[B5,Ab]; kernel_rfl
theorem K6 (k n:Nat) (p0:Option Addr) (c1:Nat) (c2:Nat) (i3:Int) (v4:Value) (x14:Int) (x15:Int) (σ:Aa):B6 k (n+1) p0 c1 c2 i3 v4 x14 x15 σ=GI k n (CX k) (B6 k) p0 c1 c2 i3 v4 x14 x15 σ:=by
 simp only[CX,B6,Ab]; kernel_rfl
theorem Gl (k n:Nat) (p0:Option Addr) (c1:Nat) (c2:Nat) (i3:Int) (x17:Int) (σ:Aa):B7 k (n+1) p0 c1 c2 i3 x17 σ=EH k n (B7 k) p0 c1 c2 i3 x17 σ:=by
 simp only[B7,Ab]; kernel_rfl
theorem K7 (k n:Nat) (p0:Option Addr) (c1:Nat) (c2:Nat) (v3:Value) (i4:Int) (x20:Int) (x21:Int) (σ:Aa):B8 k (n+1) p0 c1 c2 v3 i4 x20 x21 σ=GJ k n (CX k) (B8 k) p0 c1 c2 v3 i4 x20 x21 σ:=by
 simp only[CX,B8,Ab]; kernel_rfl
theorem LA (k:Nat) (x0:Option Addr × Nat × Nat) (x1:Int) (x2:Int) (x3:Int) (x4:Value) (σ:Aa):Ay (k+1) x0 x1 x2 x3 x4 σ=H6 k (Cj k) (Ay k) (B4 k) (B5 k) (B6 k) (B7 k) (B8 k) x0 x1 x2 x3 x4 σ:=by
 simp only[Cj,Ay,B4,B5,B6,B7,B8,Ab]; kernel_rfl
theorem Ll (k n:Nat) (p0:Option Addr) (c1:Nat) (c2:Nat) (i3:Int) (v4:Value) (x10:Int) (x11:Int) (σ:Aa):BM k (n+1) p0 c1 c2 i3 v4 x10 x11 σ=Hi k n (BM k) (Bu k) p0 c1 c2 i3 v4 x10 x11 σ:=by
 simp only[BM,Bu,Ab]; kernel_rfl
theorem MI (k:Nat) (x0:Option Addr × Nat × Nat) (x1:Int) (x2:Int) (x3:Int) (x4:Value) (σ:Aa):Cj (k+1) x0 x1 x2 x3 x4 σ=I0 k (BM k) (Bu k) x0 x1 x2 x3 x4 σ:=by
 simp only[Cj,BM,Bu,Ab]; kernel_rfl
theorem Gb (k n:Nat) (p0:Option Addr) (c1:Nat) (c2:Nat) (i3:Int) (i4:Int) (i5:Int) (x10:Int) (σ:Aa):B1 k (n+1) p0 c1 c2 i3 i4 i5 x10 σ=E3 k n (B1 k) p0 c1 c2 i3 i4 i5 x10 σ:=by
 simp only[B1,Ab]; kernel_rfl
theorem Lm (k:Nat) (x0:Option Addr × Nat × Nat) (x1:Int) (x2:Int) (x3:Int) (x4:Value) (σ:Aa):Bu (k+1) x0 x1 x2 x3 x4 σ=Hj k (B1 k) x0 x1 x2 x3 x4 σ:=by
 simp only[Bu,B1,Ab]; kernel_rfl
theorem N8 (k:Nat) (x1:Option Addr) (x2:Int) (σ:Aa):Dt (k+1) x1 x2 σ=LQ k (AM k) (AO k) x1 x2 σ:=by
 simp only[AM,AO,Dt,Ab]; kernel_rfl
theorem N7 (k:Nat) (x1:Option Addr) (x2:Int) (σ:Aa):Ds (k+1) x1 x2 σ=LP k (Bv k) x1 x2 σ:=by
 simp only[Bv,Ds,Ab]; kernel_rfl
theorem JU (k:Nat) (x0:Option Addr) (x1:Option Addr) (x2:Int) (σ:Aa):Bv (k+1) x0 x1 x2 σ=HT k (Bq k) (DC k) (Dc k) x0 x1 x2 σ:=by
 simp only[Bq,Bv,DC,Dc,Ab]; kernel_rfl
theorem Pj (k:Nat) (x0:Option Addr) (x1:Int) (σ:Aa):DC (k+1) x0 x1 σ=NN k  x0 x1 σ:=by
 simp only[DC,Ab]; kernel_rfl
theorem O8 (k:Nat) (x0:Option Addr) (x1:Int) (σ:Aa):Dc (k+1) x0 x1 σ=MM k  x0 x1 σ:=by
 simp only[Dc,Ab]; kernel_rfl
theorem Nd (k:Nat) (x1:Option Addr) (x2:Int) (σ:Aa):CT (k+1) x1 x2 σ=Lf k (Bv k) (CC k) (DC k) (Dc k) x1 x2 σ:=by
 simp only[Bv,CC,DC,Dc,CT,Ab]; kernel_rfl
theorem G1 (k n:Nat) (p0:Option Addr) (c1:Nat) (c2:Nat) (x8:Int) (σ:Aa):Cc k (n+1) p0 c1 c2 x8 σ=FA k n (Cc k) p0 c1 c2 x8 σ:=by
 simp only[Cc,Ab]; kernel_rfl
theorem Jx (k n:Nat) (p0:Option Addr) (h1:Nat) (i2:Int) (p3:Option Addr) (c4:Nat) (c5:Nat) (x7:Int) (σ:Aa):Cb k (n+1) p0 h1 i2 p3 c4 c5 x7 σ=Hl k n (Cb k) (Cc k) p0 h1 i2 p3 c4 c5 x7 σ:=by
 simp only[Cb,Cc,Ab]; kernel_rfl
theorem G0 (k n:Nat) (p0:Option Addr) (h1:Nat) (p2:Option Addr) (c3:Nat) (c4:Nat) (i5:Int) (x13:Int) (σ:Aa):BB k (n+1) p0 h1 p2 c3 c4 i5 x13 σ=F9 k n (BB k) (Cb k) (DT k) p0 h1 p2 c3 c4 i5 x13 σ:=by
 simp only[BB,Cb,DT,Ab]; kernel_rfl
theorem KW (k:Nat) (x0:Option Addr) (σ:Aa):CC (k+1) x0 σ=IZ k (Bq k) (Bo k) (BB k) x0 σ:=by
 simp only[Bq,Bo,CC,BB,Ab]; kernel_rfl
theorem Vz (k:Nat) (x0:Int) (x1:Int) (x2:Bool) (x3:Option Addr × Nat × Nat) (x4_0:Int) (x4_1:Int) (x4_2:Int) (σ:Aa):fn P (XK Kn.b) H k 4 [.int .i64 x0,.int .i64 x1,.bool x2,.slice x3.1 x3.2.1 x3.2.2,.agg #[.int .i64 x4_0,.int .i64 x4_1,.int .i64 x4_2]] σ=Jj k x0 x1 x2 x3 x4_0 x4_1 x4_2 σ:=by
 simp only[Jj,Ab]
theorem MH (k:Nat) (x0:Option Addr) (x1:Int) (σ:Aa):Ci k (.func (.func 99) #[] #[]) [.pointer x0,.int .i64 x1] σ=BR k x0 x1 σ:=by
 simp only[Ci,BR,Ab]; kernel_rfl
theorem O7 (k:Nat) (x0_0:Int) (x0_1:Int) (σ:Aa):H7 k (.func (.func 166) #[] #[]) [.agg #[.int .i64 x0_0,.int .i64 x0_1]] σ=CF k x0_0 x0_1 σ:=by
 simp only[H7,CF,Ab]; kernel_rfl
theorem O6 (k:Nat) (x0:Int) (c0:Option Addr) (σ:Aa):M0 k (.func (.func 179) #[] #[.pointer c0]) [.int .i64 x0] σ=C0 k x0 c0 σ:=by
 simp only[M0,C0,Ab]; kernel_rfl
theorem Nb (k:Nat) (x0_0:Int) (x0_1:Int) (x1_0:Int) (x1_1:Int) (σ:Aa):CX k (.func (.func 206) #[] #[]) [.agg #[.int .i64 x0_0,.int .i64 x0_1],.agg #[.int .i64 x1_0,.int .i64 x1_1]] σ=CR k x0_0 x0_1 x1_0 x1_1 σ:=by
 simp only[CX,CR,Ab]; kernel_rfl
end
theorem XR [AL] (k:Nat) (σ:Aa):@Fi _ ⟨true⟩ (k+1) σ=some (.bool true,σ):=by
 simp only[Fi,Ab]; kernel_rfl
theorem ag (a:Addr):UT P Jp (.pointer (some a)) (.pointer none)=some false∧UT P Jp (.pointer none) (.pointer none)=some true∧UT P JN (.pointer (some a)) (.pointer none)=some false∧UT P JN (.pointer none) (.pointer none)=some true∧UT P Ha (.pointer (some a)) (.pointer none)=some false∧UT P Ha (.pointer none) (.pointer none)=some true∧UT P Fu (.pointer (some a)) (.pointer none)=some false∧UT P Fu (.pointer none) (.pointer none)=some true∧UT P LG (.pointer (some a)) (.pointer none)=some false∧UT P LG (.pointer none) (.pointer none)=some true:=by
 refine ⟨?_, ?_, ?_, ?_, ?_, ?_, ?_, ?_, ?_, ?_⟩ <;> kernel_rfl
abbrev Vx:FuncId:=4
abbrev LB:FuncId:=99
abbrev NG:FuncId:=166
abbrev Np:FuncId:=206
section
local instance sD:Kn:=⟨false⟩
variable [AL]
theorem Un (k:Nat)  (σ:Aa):Fi (k+1)  σ=V7 k (AN k) (GK k) (Cn k) (DF k) (Co k) (G3 k)  σ:=by
 simp only[AN,GK,Cn,DF,Co,G3,Fi,Ab]; kernel_rfl
end
end Go.Proofs.YtlaplcglpnlieaaGreat
