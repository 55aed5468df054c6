/-
 PRINTED BY A PROGRAM OF THIS SESSION'S OWN (gen2.py): the unfolding equations.
-/
import Derived.Test.YtjbledomkmdkmaaGreatP11
set_option maxRecDepth 100000
set_option linter.unusedVariables false
set_option linter.unusedSimpArgs false
set_option linter.unusedSectionVars false
namespace Go.Proofs.YtjbledomkmdkmaaGreat
open Go Go.AX
section
variable [A9] [Kn]
theorem Zz (k:Nat):CF (k+1)=N4 k (AF k):=by
 funext _ _; simp only[CF,AF,Ab,N4,sw,Ad,Af,Ae]; kernel_rfl
theorem eg (k:Nat):HV (k+1)=RP k (AN k):=by
 funext _ _ _; simp only[HV,AN,Ab,RP,sw,Ad,Af,Ae]; kernel_rfl
theorem kc (k:Nat):JC (k+1)=Xt k  := by
 funext _ _ _ _; simp only[JC,Ab,Xt,sw,Ad,Af,Ae]; kernel_rfl
theorem Uh (k:Nat):Bs (k+1)=MY k (AJ k) (Cn k) (Cp k):=by
 funext _ _ _; simp only[AJ,Bs,Cn,Cp,Ab,MY,sw,Ad,Af,Ae]; kernel_rfl
theorem Lc (k n:Nat):Dn k (n+1)=H4 k (DK k) (Cn k) (Dn k n):=by
 funext _ _ _ _ _ _ _; simp only[DK,Cn,Dn,Ab,H4,sw,Ad,Af,Ae]; kernel_rfl
theorem Uk (k:Nat):GF (k+1)=Nb k (Ba k) (DM k) (CZ k) (DZ k) (Be k) (Dn k):=by
 funext _ _; simp only[Ba,DM,CZ,DZ,Be,GF,Dn,Ab,Nb,sw,Ad,Af,Ae]; kernel_rfl
theorem Mw (k n:Nat):DY k (n+1)=Jl k (GP k) (DY k n):=by
 funext _ _ _ _ _ _ _ _; simp only[GP,DY,Ab,Jl,sw,Ad,Af,Ae]; kernel_rfl
theorem WA (k:Nat):GZ (k+1)=Ql k (AE k) (Jv k) (DY k):=by
 funext _ _ _; simp only[AE,Jv,GZ,DY,Ab,Ql,sw,Ad,Af,Ae]; kernel_rfl
theorem Uj (k:Nat):Cp (k+1)=Na k (Br k):=by
 funext _ _ _ _; simp only[Br,Cp,Ab,Na,sw,Ad,Af,Ae]; kernel_rfl
theorem LI (k n:Nat):Es k (n+1)=Ij k (HL k) (B8 k) (Es k n):=by
 funext _ _ _ _ _ _ _; simp only[HL,Es,B8,Ab,Ij,sw,Ad,Af,Ae]; kernel_rfl
theorem LJ (k n:Nat):Et k (n+1)=Ik k (AY k) (Et k n):=by
 funext _ _ _ _; simp only[AY,Et,Ab,Ik,sw,Ad,Af,Ae]; kernel_rfl
theorem VB (k:Nat):Gh (k+1)=O9 k (Bv k) (Av k) (DS k) (Es k) (Et k) (Dv k):=by
 funext _ _; simp only[Bv,Av,DS,Gh,Es,Et,Dv,Ab,O9,sw,Ad,Af,Ae]; kernel_rfl
theorem Ry (k:Nat):D8 (k+1)=KO k (Bp k):=by
 funext _ _ _; simp only[Bp,D8,Ab,KO,sw,Ad,Af,Ae]; kernel_rfl
theorem Ue (k:Nat):Dr (k+1)=MV k (Db k):=by
 funext _ _ _; simp only[Dr,Db,Ab,MV,sw,Ad,Af,Ae]; kernel_rfl
theorem JF (k:Nat):Bk (k+1)=Gr k (GB k):=by
 funext _ _ _; simp only[Bk,GB,Ab,Gr,sw,Ad,Af,Ae]; kernel_rfl
theorem ZY (k:Nat):EB (k+1)=U3 k  := by
 funext _ _ _ _; simp only[EB,Ab,U3,sw,Ad,Af,Ae]; kernel_rfl
theorem o8 (k:Nat):Pz (k+1)=bN k (F5 k) (Av k):=by
 funext _ _ _ _; simp only[Pz,F5,Av,Ab,bN,sw,Ad,Af,Ae]; kernel_rfl
theorem Vm (k:Nat):Ed (k+1)=Ka k (E9 k) (F5 k) (S8 k) (DW k) (BO k) (EB k) (FH k):=by
 funext _ _ _ _ _; simp only[Ed,E9,F5,S8,DW,BO,EB,FH,Ab,Ka,sw,Ad,Af,Ae]; kernel_rfl
theorem Yj (k:Nat):Cn (k+1)=Sz k (CQ k):=by
 funext _ _ _; simp only[CQ,Cn,Ab,Sz,sw,Ad,Af,Ae]; kernel_rfl
theorem Q8 (k:Nat):ES (k+1)=JS k  := by
 funext _ _ _; simp only[ES,Ab,JS,sw,Ad,Af,Ae]; kernel_rfl
theorem SZ (k:Nat):Bp (k+1)=Ma k  := by
 funext _ _; simp only[Bp,Ab,Ma,sw,Ad,Af,Ae]; kernel_rfl
theorem DE (k n:Nat):Cb k (n+1)=CK k (F6 k) (Cb k n):=by
 funext _ _ _ _ _ _ _; simp only[F6,Cb,Ab,CK,sw,Ad,Af,Ae]; kernel_rfl
theorem IQ (k:Nat):EE (k+1)=FF k (Cb k):=by
 funext _ _ _; simp only[EE,Cb,Ab,FF,sw,Ad,Af,Ae]; kernel_rfl
theorem PH (k:Nat):CZ (k+1)=Jp k (Bp k):=by
 funext _ _; simp only[CZ,Bp,Ab,Jp,sw,Ad,Af,Ae]; kernel_rfl
theorem TU (k:Nat):G2 (k+1)=MN k (A7 k) (CX k):=by
 funext _ _ _ _; simp only[G2,A7,CX,Ab,MN,sw,Ad,Af,Ae]; kernel_rfl
theorem KY (k n:Nat):DN k (n+1)=H3 k (DN k n):=by
 funext _ _ _ _; simp only[DN,Ab,H3,sw,Ad,Af,Ae]; kernel_rfl
theorem TY (k:Nat):EA (k+1)=MQ k (DN k):=by
 funext _ _ _; simp only[EA,DN,Ab,MQ,sw,Ad,Af,Ae]; kernel_rfl
theorem Ir (k n:Nat):CA k (n+1)=Fz k (GY k) (CA k n):=by
 funext _ _ _ _ _ _ _ _; simp only[GY,CA,Ab,Fz,sw,Ad,Af,Ae]; kernel_rfl
theorem Eo (k n:Nat):C9 k (n+1)=Dq k (CA k) (C9 k n):=by
 funext _ _ _ _ _; simp only[C9,CA,Ab,Dq,sw,Ad,Af,Ae]; kernel_rfl
theorem PG (k:Nat):D0 (k+1)=Jo k (C9 k):=by
 funext _ _ _; simp only[D0,C9,Ab,Jo,sw,Ad,Af,Ae]; kernel_rfl
theorem Vz (k n:Nat):Je k (n+1)=Oy k (Cy k) (Je k n):=by
 funext _ _ _ _ _; simp only[Cy,Je,Ab,Oy,sw,Ad,Af,Ae]; kernel_rfl
theorem gq (k n:Nat):Jd k (n+1)=TD k (CF k) (Je k) (Jd k n):=by
 funext _ _ _ _; simp only[CF,Jd,Je,Ab,TD,sw,Ad,Af,Ae]; kernel_rfl
theorem mI (k:Nat):La (k+1)=Zo k (Jd k):=by
 funext _ _ _; simp only[La,Jd,Ab,Zo,sw,Ad,Af,Ae]; kernel_rfl
theorem K9 (k n:Nat):Cw k (n+1)=FD k (Cw k n):=by
 funext _ _ _ _ _; simp only[Cw,Ab,FD,sw,Ad,Af,Ae]; kernel_rfl
theorem KA (k n:Nat):Cx k (n+1)=FE k (Cx k n):=by
 funext _ _ _ _ _ _; simp only[Cx,Ab,FE,sw,Ad,Af,Ae]; kernel_rfl
theorem Vy (k:Nat):Eg (k+1)=Kf k (Cw k) (Cx k) (AF k) (Fv k) (JD k):=by
 funext _ _ _ _ _; simp only[Eg,Cw,Cx,AF,Fv,JD,Ab,Kf,sw,Ad,Af,Ae]; kernel_rfl
theorem WD (k n:Nat):Ko k (n+1)=Qv k (CG k) (Ko k n):=by
 funext _ _ _ _ _ _; simp only[CG,Ko,Ab,Qv,sw,Ad,Af,Ae]; kernel_rfl
theorem WC (k n:Nat):Iq k (n+1)=Qu k (CF k) (Jw k) (Fu k) (Cy k) (Ko k) (Iq k n):=by
 funext _ _ _ _ _; simp only[CF,Jw,Fu,Cy,Iq,Ko,Ab,Qu,sw,Ad,Af,Ae]; kernel_rfl
theorem oB (k:Nat):SS (k+1)=bQ k (Iq k):=by
 funext _ _ _ _ _ _; simp only[SS,Iq,Ab,bQ,sw,Ad,Af,Ae]; kernel_rfl
theorem aN (k:Nat):G4 (k+1)=OR k (AF k) (Fv k) (JD k):=by
 funext _ _ _ _; simp only[G4,AF,Fv,JD,Ab,OR,sw,Ad,Af,Ae]; kernel_rfl
theorem ke (k:Nat):CG (k+1)=Xu k (JC k):=by
 funext _ _ _ _; simp only[JC,CG,Ab,Xu,sw,Ad,Af,Ae]; kernel_rfl
theorem Ki (k n:Nat):Dx k (n+1)=GU k (Dx k n):=by
 funext _ _ _ _ _ _; simp only[Dx,Ab,GU,sw,Ad,Af,Ae]; kernel_rfl
theorem SP (k:Nat):DX (k+1)=LR k (Dx k) (A7 k) (CX k) (KZ k) (BQ k):=by
 funext _ _ _ _ _ _ _ _; simp only[DX,Dx,A7,CX,KZ,BQ,Ab,LR,sw,Ad,Af,Ae]; kernel_rfl
theorem PD (k n:Nat):Dz k (n+1)=Jn k (CG k) (Dz k n):=by
 funext _ _ _ _ _ _; simp only[Dz,CG,Ab,Jn,sw,Ad,Af,Ae]; kernel_rfl
theorem ca (k:Nat):Jx (k+1)=Qp k (G7 k) (Dz k) (Fk k) (Fq k) (CG k):=by
 funext _ _ _ _ _ _ _; simp only[G7,Jx,Dz,Fk,Fq,CG,Ab,Qp,sw,Ad,Af,Ae]; kernel_rfl
theorem Q6 (k n:Nat):EP k (n+1)=JQ k (EP k n):=by
 funext _ _ _ _; simp only[EP,Ab,JQ,sw,Ad,Af,Ae]; kernel_rfl
theorem ey (k:Nat):HW (k+1)=RT k (EP k):=by
 funext _ _ _ _ _ _ _ _ _ _; simp only[HW,EP,Ab,RT,sw,Ad,Af,Ae]; kernel_rfl
theorem KX (k n:Nat):Dm k (n+1)=H2 k (Gz k) (Dm k n):=by
 funext _ _ _ _ _ _; simp only[Gz,Dm,Ab,H2,sw,Ad,Af,Ae]; kernel_rfl
theorem TT (k:Nat):G1 (k+1)=MM k (Dm k) (EA k):=by
 funext _ _ _ _ _; simp only[G1,Dm,EA,Ab,MM,sw,Ad,Af,Ae]; kernel_rfl
theorem Ye (k:Nat):JB (k+1)=Sw k  := by
 funext _ _ _ _; simp only[JB,Ab,Sw,sw,Ad,Af,Ae]; kernel_rfl
theorem Rx (k:Nat):D7 (k+1)=KN k (Bp k) (D8 k) (B5 k):=by
 funext _ _ _ _; simp only[D7,Bp,D8,B5,Ab,KN,sw,Ad,Af,Ae]; kernel_rfl
theorem Uf (k:Nat):ED (k+1)=MW k (Db k):=by
 funext _ _ _ _; simp only[Db,ED,Ab,MW,sw,Ad,Af,Ae]; kernel_rfl
theorem Kp (k n:Nat):D2 k (n+1)=GV k (ED k) (D2 k n):=by
 funext _ _ _ _ _ _; simp only[D2,ED,Ab,GV,sw,Ad,Af,Ae]; kernel_rfl
theorem SW (k:Nat):DZ (k+1)=LX k (D2 k) (D7 k):=by
 funext _ _ _ _ _; simp only[DZ,D2,D7,Ab,LX,sw,Ad,Af,Ae]; kernel_rfl
end
end Go.Proofs.YtjbledomkmdkmaaGreat
