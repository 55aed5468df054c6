/-
 PRINTED BY A PROGRAM OF THIS SESSION'S OWN (gen2.py): the unfolding equations.
-/
import Derived.Test.YtjbledomkmdkmaaGreatP11
set_option maxRecDepth 100000
set_option linter.unusedVariables false
set_option linter.unusedSimpArgs false
set_option linter.unusedSectionVars false
namespace Go.Proofs.YtjbledomkmdkmaaGreat
open Go Go.AX
section
variable [A9] [Kn]
theorem bV (k:Nat):Ju (k+1)=Qk k (D6 k) (Q3 k) (Kj k) (GN k) (NV k) (Fe k) (BU k) (BE k) (BF k) (Bl k):=by
 funext _ _ _ _ _ _ _ _ _ _ _; simp only[D6,Q3,Kj,Ju,GN,NV,Fe,BU,BE,BF,Bl,Ab,Qk,sw,Ad,Af,Ae]; kernel_rfl
theorem jY (k:Nat):NV (k+1)=Xr k (Im k) (Lb k):=by
 funext _ _ _ _ _ _ _ _; simp only[Im,NV,Lb,Ab,Xr,sw,Ad,Af,Ae]; kernel_rfl
theorem Np (k:Nat):BF (k+1)=HC k (Ao k) (GD k):=by
 funext _ _; simp only[BF,Ao,GD,Ab,HC,sw,Ad,Af,Ae]; kernel_rfl
theorem Oa (k:Nat):Bl (k+1)=IA k (Ao k) (Hw k):=by
 funext _ _ _; simp only[Bl,Ao,Hw,Ab,IA,sw,Ad,Af,Ae]; kernel_rfl
theorem Nn (k:Nat):BE (k+1)=HB k (Ao k) (GC k):=by
 funext _ _; simp only[BE,Ao,GC,Ab,HB,sw,Ad,Af,Ae]; kernel_rfl
theorem Pd (k n:Nat):Ge k (n+1)=Ln k (Ge k n):=by
 funext _ _ _ _ _ _ _ _; simp only[Ge,Ab,Ln,sw,Ad,Af,Ae]; kernel_rfl
theorem ah (k:Nat):D6 (k+1)=U7 k (Ge k):=by
 funext _ _ _; simp only[D6,Ge,Ab,U7,sw,Ad,Af,Ae]; kernel_rfl
theorem NZ (k:Nat):BU (k+1)=I9 k (Ao k) (Hv k):=by
 funext _ _; simp only[BU,Ao,Hv,Ab,I9,sw,Ad,Af,Ae]; kernel_rfl
theorem Xz (k:Nat):Fe (k+1)=LC k (Ao k) (Lq k):=by
 funext _ _; simp only[Fe,Ao,Lq,Ab,LC,sw,Ad,Af,Ae]; kernel_rfl
theorem Q4 (k n:Nat):FX k (n+1)=JO k (FX k n):=by
 funext _ _ _ _; simp only[FX,Ab,JO,sw,Ad,Af,Ae]; kernel_rfl
theorem dZ (k:Nat):Kj (k+1)=RL k (FX k) (FY k):=by
 funext _ _ _; simp only[Kj,FX,FY,Ab,RL,sw,Ad,Af,Ae]; kernel_rfl
theorem Vt (k n:Nat):IZ k (n+1)=Ot k (Av k) (BO k) (AY k) (IZ k n):=by
 funext _ _ _ _; simp only[Av,BO,AY,IZ,Ab,Ot,sw,Ad,Af,Ae]; kernel_rfl
theorem Vv (k n:Nat):Jb k (n+1)=Ov k (AA k) (Jb k n):=by
 funext _ _ _ _; simp only[AA,Jb,Ab,Ov,sw,Ad,Af,Ae]; kernel_rfl
theorem Vw (k n:Nat):Jc k (n+1)=Ow k (HT k) (Jc k n):=by
 funext _ _ _ _; simp only[HT,Jc,Ab,Ow,sw,Ad,Af,Ae]; kernel_rfl
theorem Vu (k n:Nat):Ja k (n+1)=Ou k (FG k) (G0 k) (AE k) (Jb k) (Jc k) (Ja k n):=by
 funext _ _ _ _ _ _ _; simp only[FG,G0,AE,Ja,Jb,Jc,Ab,Ou,sw,Ad,Af,Ae]; kernel_rfl
theorem mG (k:Nat):Q3 (k+1)=Zm k (Bv k) (Gy k) (IZ k) (Ja k):=by
 funext _ _; simp only[Bv,Gy,Q3,IZ,Ja,Ab,Zm,sw,Ad,Af,Ae]; kernel_rfl
theorem SU (k:Nat):Du (k+1)=LV k (ET k):=by
 funext _ _ _ _ _ _; simp only[Du,ET,Ab,LV,sw,Ad,Af,Ae]; kernel_rfl
theorem Zy (k:Nat):Ga (k+1)=N3 k (EC k):=by
 funext _ _ _; simp only[Ga,EC,Ab,N3,sw,Ad,Af,Ae]; kernel_rfl
theorem V7 (k:Nat):Ej (k+1)=Kh k (Ao k) (Hm k):=by
 funext _ _; simp only[Ej,Ao,Hm,Ab,Kh,sw,Ad,Af,Ae]; kernel_rfl
theorem Wv (k:Nat):EG (k+1)=KS k (Ao k) (HY k):=by
 funext _ _; simp only[EG,Ao,HY,Ab,KS,sw,Ad,Af,Ae]; kernel_rfl
theorem Vq (k:Nat):Bv (k+1)=On k (Dl k) (A7 k):=by
 funext _ _; simp only[Bv,Dl,A7,Ab,On,sw,Ad,Af,Ae]; kernel_rfl
theorem aJ (k:Nat):Gy (k+1)=ON k (A7 k):=by
 funext _ _; simp only[Gy,A7,Ab,ON,sw,Ad,Af,Ae]; kernel_rfl
theorem NP (k n:Nat):C0 k (n+1)=Iw k (H5 k) (NU k) (C0 k n):=by
 funext _ _ _ _; simp only[C0,H5,NU,Ab,Iw,sw,Ad,Af,Ae]; kernel_rfl
theorem NQ (k n:Nat):C5 k (n+1)=Ix k (DK k) (Bq k) (FJ k) (C5 k n):=by
 funext _ _ _ _; simp only[DK,C5,Bq,FJ,Ab,Ix,sw,Ad,Af,Ae]; kernel_rfl
theorem NR (k n:Nat):BS k (n+1)=Iy k (Bq k) (Io k) (G6 k) (BS k n):=by
 funext _ _ _ _; simp only[BS,Bq,Io,G6,Ab,Iy,sw,Ad,Af,Ae]; kernel_rfl
theorem NS (k n:Nat):C6 k (n+1)=Iz k (Bq k) (Jt k) (C6 k n):=by
 funext _ _ _ _; simp only[C6,Bq,Jt,Ab,Iz,sw,Ad,Af,Ae]; kernel_rfl
theorem NT (k n:Nat):C7 k (n+1)=I0 k (IY k) (Bq k) (G5 k) (C7 k n):=by
 funext _ _ _ _; simp only[IY,C7,Bq,G5,Ab,I0,sw,Ad,Af,Ae]; kernel_rfl
theorem aL (k:Nat):Im (k+1)=OP k (JA k) (C0 k) (C5 k) (BS k) (C6 k) (C7 k) (PE k) (PF k) (HN k):=by
 funext _ _ _ _ _ _ _ _; simp only[JA,Im,C0,C5,BS,C6,C7,PE,PF,HN,Ab,OP,sw,Ad,Af,Ae]; kernel_rfl
theorem fj (k:Nat):Lb (k+1)=Zp k (PK k):=by
 funext _ _ _; simp only[Lb,PK,Ab,Zp,sw,Ad,Af,Ae]; kernel_rfl
theorem Ob (k:Nat):Ao (k+1)=IB k  := by
 funext _ _; simp only[Ao,Ab,IB,sw,Ad,Af,Ae]; kernel_rfl
theorem Ui (k:Nat):GD (k+1)=MZ k (Mx k) (A8 k) (Dv k):=by
 funext _ _; simp only[Mx,A8,GD,Dv,Ab,MZ,sw,Ad,Af,Ae]; kernel_rfl
theorem LH (k n:Nat):Er k (n+1)=Ii k (DF k) (Er k n):=by
 funext _ _ _ _; simp only[Er,DF,Ab,Ii,sw,Ad,Af,Ae]; kernel_rfl
theorem VA (k:Nat):Hw (k+1)=O8 k (A8 k) (Er k):=by
 funext _ _ _; simp only[A8,Hw,Er,Ab,O8,sw,Ad,Af,Ae]; kernel_rfl
theorem Ug (k:Nat):GC (k+1)=MX k (A8 k):=by
 funext _ _; simp only[A8,GC,Ab,MX,sw,Ad,Af,Ae]; kernel_rfl
theorem V8 (k:Nat):Hv (k+1)=Oz k (Be k) (A8 k):=by
 funext _ _; simp only[Be,Hv,A8,Ab,Oz,sw,Ad,Af,Ae]; kernel_rfl
theorem gu (k:Nat):Lq (k+1)=TF k (Be k) (A8 k):=by
 funext _ _; simp only[Be,Lq,A8,Ab,TF,sw,Ad,Af,Ae]; kernel_rfl
theorem Rt (k:Nat):Av (k+1)=KI k (A7 k):=by
 funext _ _; simp only[Av,A7,Ab,KI,sw,Ad,Af,Ae]; kernel_rfl
theorem Mt (k:Nat):AY (k+1)=Jj k (Av k):=by
 funext _ _ _; simp only[Av,AY,Ab,Jj,sw,Ad,Af,Ae]; kernel_rfl
theorem Ms (k:Nat):BO (k+1)=Ji k (Av k):=by
 funext _ _ _; simp only[Av,BO,Ab,Ji,sw,Ad,Af,Ae]; kernel_rfl
theorem aK (k:Nat):G0 (k+1)=OO k (AJ k) (CQ k):=by
 funext _ _ _; simp only[AJ,G0,CQ,Ab,OO,sw,Ad,Af,Ae]; kernel_rfl
theorem bS (k:Nat):FG (k+1)=Qh k (Bd k):=by
 funext _ _ _; simp only[FG,Bd,Ab,Qh,sw,Ad,Af,Ae]; kernel_rfl
theorem Mr (k:Nat):AE (k+1)=Jh k (Bd k) (FI k):=by
 funext _ _ _; simp only[AE,Bd,FI,Ab,Jh,sw,Ad,Af,Ae]; kernel_rfl
theorem Vs (k:Nat):AA (k+1)=Oq k (CW k):=by
 funext _ _ _ _; simp only[AA,CW,Ab,Oq,sw,Ad,Af,Ae]; kernel_rfl
end
end Go.Proofs.YtjbledomkmdkmaaGreat
