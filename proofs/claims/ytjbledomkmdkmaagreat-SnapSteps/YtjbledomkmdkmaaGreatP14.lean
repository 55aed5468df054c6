/-
 PRINTED BY A PROGRAM OF THIS SESSION'S OWN (gen2.py): the unfolding equations.
-/
import Derived.Test.YtjbledomkmdkmaaGreatP11
set_option maxRecDepth 100000
set_option linter.unusedVariables false
set_option linter.unusedSimpArgs false
set_option linter.unusedSectionVars false
namespace Go.Proofs.YtjbledomkmdkmaaGreat
open Go Go.AX
section
variable [A9] [Kn]
theorem R1 (k:Nat):Be (k+1)=KQ k  := by
 funext _ _; simp only[Be,Ab,KQ,sw,Ad,Af,Ae]; kernel_rfl
theorem Vr (k:Nat):AJ (k+1)=Oo k (A7 k) (CQ k):=by
 funext _ _ _; simp only[AJ,A7,CQ,Ab,Oo,sw,Ad,Af,Ae]; kernel_rfl
theorem Uc (k:Nat):CQ (k+1)=MT k (Dr k) (D8 k):=by
 funext _ _ _; simp only[CQ,Dr,D8,Ab,MT,sw,Ad,Af,Ae]; kernel_rfl
theorem Rv (k:Nat):Bd (k+1)=KK k (AJ k) (A7 k):=by
 funext _ _ _; simp only[AJ,A7,Bd,Ab,KK,sw,Ad,Af,Ae]; kernel_rfl
theorem aa (k:Nat):FI (k+1)=U5 k  := by
 funext _ _; simp only[FI,Ab,U5,sw,Ad,Af,Ae]; kernel_rfl
theorem SQ (k:Nat):CW (k+1)=LS k (Bd k) (FI k):=by
 funext _ _ _ _ _; simp only[CW,Bd,FI,Ab,LS,sw,Ad,Af,Ae]; kernel_rfl
theorem Xy (k:Nat):JE (k+1)=Vj k (Bk k):=by
 funext _ _ _; simp only[JE,Bk,Ab,Vj,sw,Ad,Af,Ae]; kernel_rfl
theorem ez (k:Nat):HX (k+1)=RU k (Ed k) (Pz k) (EB k) (A8 k) (Cp k):=by
 funext _ _ _ _ _ _; simp only[Ed,Pz,EB,HX,A8,Cp,Ab,RU,sw,Ad,Af,Ae]; kernel_rfl
theorem iE (k:Nat):Kr (k+1)=Vk k (AA k) (A8 k):=by
 funext _ _ _ _; simp only[AA,A8,Kr,Ab,Vk,sw,Ad,Af,Ae]; kernel_rfl
theorem gr (k:Nat):Gg (k+1)=TE k  := by
 funext _ _; simp only[Gg,Ab,TE,sw,Ad,Af,Ae]; kernel_rfl
theorem Ru (k:Nat):Cv (k+1)=KJ k (AJ k) (CW k):=by
 funext _ _ _ _ _; simp only[AJ,Cv,CW,Ab,KJ,sw,Ad,Af,Ae]; kernel_rfl
theorem Rr (k:Nat):CR (k+1)=Hs k (AA k) (GO k) (Gg k) (Hn k):=by
 funext _ _ _ _ _; simp only[AA,GO,CR,Gg,Hn,Ab,Hs,sw,Ad,Af,Ae]; kernel_rfl
theorem ck (k:Nat):Hl (k+1)=Qw k (AJ k) (A8 k) (Cn k):=by
 funext _ _ _; simp only[AJ,Hl,A8,Cn,Ab,Qw,sw,Ad,Af,Ae]; kernel_rfl
theorem Rw (k:Nat):Bo (k+1)=KM k  := by
 funext _ _; simp only[Bo,Ab,KM,sw,Ad,Af,Ae]; kernel_rfl
theorem Ub (k:Nat):GA (k+1)=MS k (ES k):=by
 funext _ _ _ _ _; simp only[GA,ES,Ab,MS,sw,Ad,Af,Ae]; kernel_rfl
theorem aW (k:Nat):BZ (k+1)=Pa k  := by
 funext _ _; simp only[BZ,Ab,Pa,sw,Ad,Af,Ae]; kernel_rfl
theorem bZ (k:Nat):AF (k+1)=Qo k  := by
 funext _ _; simp only[AF,Ab,Qo,sw,Ad,Af,Ae]; kernel_rfl
theorem ak (k:Nat):GP (k+1)=UA k  := by
 funext _ _ _; simp only[GP,Ab,UA,sw,Ad,Af,Ae]; kernel_rfl
theorem ai (k:Nat):GO (k+1)=U8 k (AE k):=by
 funext _ _ _; simp only[AE,GO,Ab,U8,sw,Ad,Af,Ae]; kernel_rfl
theorem cm (k:Nat):Hn (k+1)=Qy k (Bs k):=by
 funext _ _ _; simp only[Bs,Hn,Ab,Qy,sw,Ad,Af,Ae]; kernel_rfl
theorem PJ (k n:Nat):D4 k (n+1)=Jq k (Dr k) (D4 k n):=by
 funext _ _ _ _; simp only[D4,Dr,Ab,Jq,sw,Ad,Af,Ae]; kernel_rfl
theorem SY (k:Nat):Da (k+1)=LZ k (D4 k) (Bp k):=by
 funext _ _ _ _; simp only[Da,D4,Bp,Ab,LZ,sw,Ad,Af,Ae]; kernel_rfl
theorem Yh (k:Nat):Ex (k+1)=Sy k (AJ k):=by
 funext _ _ _; simp only[AJ,Ex,Ab,Sy,sw,Ad,Af,Ae]; kernel_rfl
theorem Hu (k:Nat):B5 (k+1)=EN k (EE k):=by
 funext _ _ _; simp only[B5,EE,Ab,EN,sw,Ad,Af,Ae]; kernel_rfl
theorem Q7 (k:Nat):Cc (k+1)=JR k (PA k) (Hk k) (Bo k):=by
 funext _ _; simp only[PA,Cc,Hk,Bo,Ab,JR,sw,Ad,Af,Ae]; kernel_rfl
theorem KW (k:Nat):Ba (k+1)=H0 k (Dl k) (A7 k):=by
 funext _ _ _; simp only[Ba,Dl,A7,Ab,H0,sw,Ad,Af,Ae]; kernel_rfl
theorem ZZ (k:Nat):FH (k+1)=U4 k (EB k):=by
 funext _ _ _ _; simp only[EB,FH,Ab,U4,sw,Ad,Af,Ae]; kernel_rfl
theorem IP (k n:Nat):CU k (n+1)=FC k (CU k n):=by
 funext _ _ _ _; simp only[CU,Ab,FC,sw,Ad,Af,Ae]; kernel_rfl
theorem Q0 (k:Nat):DM (k+1)=JM k (Ba k) (CU k) (G2 k) (EA k):=by
 funext _ _ _; simp only[Ba,DM,CU,G2,EA,Ab,JM,sw,Ad,Af,Ae]; kernel_rfl
theorem TX (k:Nat):BP (k+1)=MP k (FH k) (FI k):=by
 funext _ _ _; simp only[BP,FH,FI,Ab,MP,sw,Ad,Af,Ae]; kernel_rfl
theorem cf (k:Nat):Jy (k+1)=Qs k  := by
 funext _ _ _ _ _; simp only[Jy,Ab,Qs,sw,Ad,Af,Ae]; kernel_rfl
theorem SV (k:Nat):Hk (k+1)=LW k  := by
 funext _ _; simp only[Hk,Ab,LW,sw,Ad,Af,Ae]; kernel_rfl
theorem cg (k:Nat):Jz (k+1)=Qt k  := by
 funext _ _ _ _ _ _; simp only[Jz,Ab,Qt,sw,Ad,Af,Ae]; kernel_rfl
theorem kh (k:Nat):L6 (k+1)=Xw k (G4 k) (Eg k) (Fk k) (Fq k) (La k) (SS k):=by
 funext _ _ _ _ _ _; simp only[G4,Eg,Fk,Fq,La,L6,SS,Ab,Xw,sw,Ad,Af,Ae]; kernel_rfl
theorem jZ (k:Nat):Fk (k+1)=Xs k (CG k):=by
 funext _ _ _ _; simp only[Fk,CG,Ab,Xs,sw,Ad,Af,Ae]; kernel_rfl
theorem Nl (k:Nat):Bn (k+1)=H9 k (DX k):=by
 funext _ _ _ _ _; simp only[Bn,DX,Ab,H9,sw,Ad,Af,Ae]; kernel_rfl
theorem mH (k:Nat):Fq (k+1)=Zn k (CG k):=by
 funext _ _ _ _; simp only[Fq,CG,Ab,Zn,sw,Ad,Af,Ae]; kernel_rfl
theorem SN (k:Nat):CT (k+1)=LP k (DX k):=by
 funext _ _ _ _; simp only[CT,DX,Ab,LP,sw,Ad,Af,Ae]; kernel_rfl
theorem aP (k:Nat):Ft (k+1)=OT k (AF k) (Jx k) (HW k) (JC k):=by
 funext _ _ _ _ _ _; simp only[AF,Ft,Jx,HW,JC,Ab,OT,sw,Ad,Af,Ae]; kernel_rfl
theorem SO (k:Nat):DW (k+1)=LQ k (G1 k) (A7 k) (EB k) (FH k) (JB k) (Br k):=by
 funext _ _ _ _ _ _; simp only[DW,G1,A7,EB,FH,JB,Br,Ab,LQ,sw,Ad,Af,Ae]; kernel_rfl
theorem aV (k:Nat):BW (k+1)=OZ k (AN k) (AF k):=by
 funext _ _ _; simp only[AN,AF,BW,Ab,OZ,sw,Ad,Af,Ae]; kernel_rfl
theorem et (k:Nat):Kk (k+1)=RR k  := by
 funext _ _ _; simp only[Kk,Ab,RR,sw,Ad,Af,Ae]; kernel_rfl
theorem Ud (k:Nat):Br (k+1)=MU k (D7 k) (ED k):=by
 funext _ _ _ _; simp only[Br,D7,ED,Ab,MU,sw,Ad,Af,Ae]; kernel_rfl
theorem TZ (k:Nat):G3 (k+1)=MR k  := by
 funext _ _ _ _; simp only[G3,Ab,MR,sw,Ad,Af,Ae]; kernel_rfl
theorem Z0 (k:Nat):Gb (k+1)=N5 k (HV k) (AN k) (BW k):=by
 funext _ _ _ _ _; simp only[HV,AN,Gb,BW,Ab,N5,sw,Ad,Af,Ae]; kernel_rfl
theorem Z1 (k:Nat):ER (k+1)=N6 k (BZ k):=by
 funext _ _; simp only[BZ,ER,Ab,N6,sw,Ad,Af,Ae]; kernel_rfl
theorem aX (k:Nat):G8 (k+1)=Pb k (BZ k):=by
 funext _ _ _; simp only[BZ,G8,Ab,Pb,sw,Ad,Af,Ae]; kernel_rfl
theorem aY (k:Nat):G9 (k+1)=Pc k (Bo k):=by
 funext _ _ _; simp only[G9,Bo,Ab,Pc,sw,Ad,Af,Ae]; kernel_rfl
theorem eu (k:Nat):Kl (k+1)=RS k (AN k) (BW k):=by
 funext _ _ _ _; simp only[AN,BW,Kl,Ab,RS,sw,Ad,Af,Ae]; kernel_rfl
theorem gp (k:Nat):Lp (k+1)=TB k (Bd k) (Br k):=by
 funext _ _ _ _; simp only[Bd,Lp,Br,Ab,TB,sw,Ad,Af,Ae]; kernel_rfl
end
end Go.Proofs.YtjbledomkmdkmaaGreat
