/-
 PRINTED BY A PROGRAM OF THIS SESSION'S OWN (gen2.py): the unfolding equations.
-/
import Derived.Test.YtjbledomkmdkmaaGreatP11
set_option maxRecDepth 100000
set_option linter.unusedVariables false
set_option linter.unusedSimpArgs false
set_option linter.unusedSectionVars false
namespace Go.Proofs.YtjbledomkmdkmaaGreat
open Go Go.AX
section
variable [A9] [Kn]
theorem dW (k:Nat):HT (k+1)=RH k (CW k):=by
 funext _ _ _ _; simp only[HT,CW,Ab,RH,sw,Ad,Af,Ae]; kernel_rfl
theorem fh (k:Nat):JA (k+1)=Zl k (JE k):=by
 funext _ _; simp only[JA,JE,Ab,Zl,sw,Ad,Af,Ae]; kernel_rfl
theorem cj (k:Nat):HN (k+1)=W9 k  := by
 funext _ _; simp only[HN,Ab,W9,sw,Ad,Af,Ae]; kernel_rfl
theorem Wu (k:Nat):EF (k+1)=KR k (Ao k) (HX k):=by
 funext _ _ _ _ _ _; simp only[EF,Ao,HX,Ab,KR,sw,Ad,Af,Ae]; kernel_rfl
theorem Ww (k:Nat):EH (k+1)=KT k (Cv k) (Ao k) (CR k) (Gg k) (Kr k):=by
 funext _ _ _ _ _; simp only[Cv,EH,Ao,CR,Gg,Kr,Ab,KT,sw,Ad,Af,Ae]; kernel_rfl
theorem V1 (k:Nat):Ei (k+1)=Kg k (Ao k) (Hl k):=by
 funext _ _ _; simp only[Ei,Ao,Hl,Ab,Kg,sw,Ad,Af,Ae]; kernel_rfl
theorem Q9 (k:Nat):ET (k+1)=JT k (GA k) (Bo k):=by
 funext _ _ _ _ _; simp only[GA,Bo,ET,Ab,JT,sw,Ad,Af,Ae]; kernel_rfl
theorem Wt (k:Nat):EC (k+1)=KL k (BZ k):=by
 funext _ _; simp only[BZ,EC,Ab,KL,sw,Ad,Af,Ae]; kernel_rfl
theorem Yi (k n:Nat):Ep k (n+1)=Mp k (DF k) (Ep k n):=by
 funext _ _ _; simp only[Ep,DF,Ab,Mp,sw,Ad,Af,Ae]; kernel_rfl
theorem cl (k:Nat):Hm (k+1)=Qx k (Ep k) (A8 k):=by
 funext _ _; simp only[Hm,Ep,A8,Ab,Qx,sw,Ad,Af,Ae]; kernel_rfl
theorem eD (k:Nat):HY (k+1)=RW k (A8 k):=by
 funext _ _; simp only[HY,A8,Ab,RW,sw,Ad,Af,Ae]; kernel_rfl
theorem jW (k:Nat):NU (k+1)=Xp k  := by
 funext _ _ _ _ _; simp only[NU,Ab,Xp,sw,Ad,Af,Ae]; kernel_rfl
theorem TW (k:Nat):A7 (k+1)=MO k  := by
 funext _ _; simp only[A7,Ab,MO,sw,Ad,Af,Ae]; kernel_rfl
theorem Gp (k n:Nat):BB k (n+1)=E6 k (Da k) (BB k n):=by
 funext _ _ _ _ _ _; simp only[BB,Da,Ab,E6,sw,Ad,Af,Ae]; kernel_rfl
theorem Q2 (k:Nat):Dl (k+1)=JN k (BB k) (Da k):=by
 funext _ _ _ _; simp only[Dl,BB,Da,Ab,JN,sw,Ad,Af,Ae]; kernel_rfl
theorem NW (k n:Nat):Fc k (n+1)=I6 k (Fc k n):=by
 funext _ _ _ _; simp only[Fc,Ab,I6,sw,Ad,Af,Ae]; kernel_rfl
theorem aO (k:Nat):AN (k+1)=OS k (Fc k) (AF k):=by
 funext _ _ _; simp only[AN,Fc,AF,Ab,OS,sw,Ad,Af,Ae]; kernel_rfl
theorem Sb (k n:Nat):HQ k (n+1)=NO k (AA k) (Ex k) (HQ k n):=by
 funext _ _ _ _ _; simp only[AA,Ex,HQ,Ab,NO,sw,Ad,Af,Ae]; kernel_rfl
theorem Sa (k n:Nat):HP k (n+1)=NN k (AE k) (HQ k) (HP k n):=by
 funext _ _ _ _ _ _ _; simp only[AE,HP,HQ,Ab,NN,sw,Ad,Af,Ae]; kernel_rfl
theorem fk (k:Nat):Mx (k+1)=Zq k (Bv k) (Cc k) (B5 k) (HP k):=by
 funext _ _ _; simp only[Bv,Cc,B5,Mx,HP,Ab,Zq,sw,Ad,Af,Ae]; kernel_rfl
theorem WB (k n:Nat):Km k (n+1)=Qq k (Km k n):=by
 funext _ _ _ _; simp only[Km,Ab,Qq,sw,Ad,Af,Ae]; kernel_rfl
theorem oA (k:Nat):PF (k+1)=bP k (Km k):=by
 funext _ _; simp only[PF,Km,Ab,bP,sw,Ad,Af,Ae]; kernel_rfl
theorem Nm (k:Nat):CY (k+1)=HA k (Bo k):=by
 funext _ _; simp only[CY,Bo,Ab,HA,sw,Ad,Af,Ae]; kernel_rfl
theorem cd (k:Nat):Hj (k+1)=Qr k (BZ k) (Jy k) (Jz k):=by
 funext _ _ _ _ _ _; simp only[BZ,Hj,Jy,Jz,Ab,Qr,sw,Ad,Af,Ae]; kernel_rfl
theorem o9 (k:Nat):PE (k+1)=bO k  := by
 funext _ _; simp only[PE,Ab,bO,sw,Ad,Af,Ae]; kernel_rfl
theorem Zx (k:Nat):H5 (k+1)=N2 k (CT k) (Bn k) (DW k) (AY k) (Ft k) (Fk k) (Fq k) (L6 k):=by
 funext _ _ _ _ _ _; simp only[CT,Bn,DW,AY,H5,Ft,Fk,Fq,L6,Ab,N2,sw,Ad,Af,Ae]; kernel_rfl
theorem ef (k:Nat):Bq (k+1)=RN k (Ua k):=by
 funext _ _ _; simp only[Bq,Ua,Ab,RN,sw,Ad,Af,Ae]; kernel_rfl
theorem bY (k:Nat):FJ (k+1)=Qn k (AN k) (Kk k) (BW k):=by
 funext _ _ _; simp only[AN,FJ,Kk,BW,Ab,Qn,sw,Ad,Af,Ae]; kernel_rfl
theorem TS (k:Nat):DK (k+1)=ML k (Bd k) (BP k) (G3 k) (Br k):=by
 funext _ _ _; simp only[DK,Bd,BP,G3,Br,Ab,ML,sw,Ad,Af,Ae]; kernel_rfl
theorem aQ (k:Nat):G6 (k+1)=OU k (AN k) (BW k):=by
 funext _ _ _; simp only[AN,G6,BW,Ab,OU,sw,Ad,Af,Ae]; kernel_rfl
theorem aM (k:Nat):Io (k+1)=OQ k (Cv k) (Gb k):=by
 funext _ _ _ _ _; simp only[Cv,Io,Gb,Ab,OQ,sw,Ad,Af,Ae]; kernel_rfl
theorem bU (k:Nat):Jt (k+1)=Qj k (Ga k) (G8 k) (ER k) (Hj k) (G9 k) (Du k):=by
 funext _ _ _ _; simp only[Jt,Ga,G8,ER,Hj,G9,Du,Ab,Qj,sw,Ad,Af,Ae]; kernel_rfl
theorem ei (k:Nat):G5 (k+1)=RQ k (Kl k):=by
 funext _ _ _; simp only[G5,Kl,Ab,RQ,sw,Ad,Af,Ae]; kernel_rfl
theorem gn (k:Nat):IY (k+1)=TA k (Lp k):=by
 funext _ _ _; simp only[IY,Lp,Ab,TA,sw,Ad,Af,Ae]; kernel_rfl
theorem iF (k:Nat):PK (k+1)=dz k (Av k) (CY k) (JE k):=by
 funext _ _ _ _ _; simp only[Av,CY,JE,PK,Ab,dz,sw,Ad,Af,Ae]; kernel_rfl
theorem V9 (k:Nat):A8 (k+1)=O7 k  := by
 funext _ _; simp only[A8,Ab,O7,sw,Ad,Af,Ae]; kernel_rfl
theorem Kt (k n:Nat):D5 k (n+1)=GX k (Bs k) (D5 k n):=by
 funext _ _ _ _ _ _ _; simp only[Bs,D5,Ab,GX,sw,Ad,Af,Ae]; kernel_rfl
theorem Tb (k:Nat):Dv (k+1)=Mc k (Cc k) (D5 k):=by
 funext _ _; simp only[Cc,Dv,D5,Ab,Mc,sw,Ad,Af,Ae]; kernel_rfl
theorem LK (k n:Nat):Eu k (n+1)=Il k (Bs k) (Eu k n):=by
 funext _ _ _ _ _ _ _; simp only[Bs,Eu,Ab,Il,sw,Ad,Af,Ae]; kernel_rfl
theorem Ld (k:Nat):DF (k+1)=IX k (AJ k) (GZ k) (Be k) (Gh k) (Cp k) (GF k) (Eu k):=by
 funext _ _; simp only[AJ,GZ,Be,Gh,Cp,GF,DF,Eu,Ab,IX,sw,Ad,Af,Ae]; kernel_rfl
end
end Go.Proofs.YtjbledomkmdkmaaGreat
