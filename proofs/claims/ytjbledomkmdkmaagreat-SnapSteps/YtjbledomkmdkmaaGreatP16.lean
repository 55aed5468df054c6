/-
 PRINTED BY A PROGRAM OF THIS SESSION'S OWN (gen2.py): the unfolding equations.
-/
import Derived.Test.YtjbledomkmdkmaaGreatP11
set_option maxRecDepth 100000
set_option linter.unusedVariables false
set_option linter.unusedSimpArgs false
set_option linter.unusedSectionVars false
namespace Go.Proofs.YtjbledomkmdkmaaGreat
open Go Go.AX
section
variable [A9] [Kn]
theorem Pe (k n:Nat):Gf k (n+1)=Lo k (AA k) (Gf k n):=by
 funext _ _ _ _ _ _; simp only[AA,Gf,Ab,Lo,sw,Ad,Af,Ae]; kernel_rfl
theorem aj (k:Nat):Jv (k+1)=U9 k (AE k) (Gf k):=by
 funext _ _ _; simp only[AE,Jv,Gf,Ab,U9,sw,Ad,Af,Ae]; kernel_rfl
theorem HD (k n:Nat):BG k (n+1)=Fi k (AA k) (GO k) (B8 k) (BG k n):=by
 funext _ _ _ _ _ _ _ _; simp only[AA,GO,BG,B8,Ab,Fi,sw,Ad,Af,Ae]; kernel_rfl
theorem HE (k n:Nat):Cm k (n+1)=Fj k (Bs k) (Cm k n):=by
 funext _ _ _ _ _ _ _; simp only[Bs,Cm,Ab,Fj,sw,Ad,Af,Ae]; kernel_rfl
theorem Oc (k:Nat):DS (k+1)=IC k (Bv k) (BG k) (Cm k):=by
 funext _ _; simp only[Bv,DS,BG,Cm,Ab,IC,sw,Ad,Af,Ae]; kernel_rfl
theorem VC (k:Nat):B8 (k+1)=OA k (AJ k) (Cn k):=by
 funext _ _ _; simp only[AJ,Cn,B8,Ab,OA,sw,Ad,Af,Ae]; kernel_rfl
theorem Yf (k:Nat):HL (k+1)=Sx k (Ht k):=by
 funext _ _ _ _; simp only[HL,Ht,Ab,Sx,sw,Ad,Af,Ae]; kernel_rfl
theorem Ta (k:Nat):Db (k+1)=Mb k  := by
 funext _ _; simp only[Db,Ab,Mb,sw,Ad,Af,Ae]; kernel_rfl
theorem GQ (k n:Nat):Di k (n+1)=Fa k (Di k n):=by
 funext _ _ _ _ _ _ _; simp only[Di,Ab,Fa,sw,Ad,Af,Ae]; kernel_rfl
theorem LF (k:Nat):GB (k+1)=Ih k (Di k):=by
 funext _ _ _; simp only[GB,Di,Ab,Ih,sw,Ad,Af,Ae]; kernel_rfl
theorem dV (k:Nat):F5 (k+1)=RF k  := by
 funext  _; simp only[F5,Ab,RF,sw,Ad,Af,Ae]; kernel_rfl
theorem Ws (k:Nat):E9 (k+1)=KH k  := by
 funext _ _; simp only[E9,Ab,KH,sw,Ad,Af,Ae]; kernel_rfl
theorem SM (k n:Nat):Cu k (n+1)=Ie k (Av k) (Bn k) (Cu k n):=by
 funext _ _ _ _; simp only[Cu,Av,Bn,Ab,Ie,sw,Ad,Af,Ae]; kernel_rfl
theorem Vo (k:Nat):Ee (k+1)=Kc k (Cu k):=by
 funext _ _ _; simp only[Ee,Cu,Ab,Kc,sw,Ad,Af,Ae]; kernel_rfl
theorem SR (k:Nat):CX (k+1)=LU k (A7 k):=by
 funext _ _ _; simp only[A7,CX,Ab,LU,sw,Ad,Af,Ae]; kernel_rfl
theorem aS (k:Nat):Cy (k+1)=OW k (AF k):=by
 funext _ _ _; simp only[AF,Cy,Ab,OW,sw,Ad,Af,Ae]; kernel_rfl
theorem aU (k:Nat):Fv (k+1)=OY k  := by
 funext _ _ _; simp only[Fv,Ab,OY,sw,Ad,Af,Ae]; kernel_rfl
theorem kg (k:Nat):JD (k+1)=Xv k  := by
 funext _ _; simp only[JD,Ab,Xv,sw,Ad,Af,Ae]; kernel_rfl
theorem aR (k:Nat):Fu (k+1)=OV k (AF k):=by
 funext _ _ _; simp only[AF,Fu,Ab,OV,sw,Ad,Af,Ae]; kernel_rfl
theorem PC (k n:Nat):Dy k (n+1)=Jm k (AN k) (CG k) (Dy k n):=by
 funext _ _ _ _ _ _ _ _; simp only[Dy,AN,CG,Ab,Jm,sw,Ad,Af,Ae]; kernel_rfl
theorem bX (k:Nat):Jw (k+1)=Qm k (Dy k) (Ha k) (Cy k):=by
 funext _ _ _; simp only[Jw,Dy,Ha,Cy,Ab,Qm,sw,Ad,Af,Ae]; kernel_rfl
theorem ae (k:Nat):KZ (k+1)=U6 k  := by
 funext _ _; simp only[KZ,Ab,U6,sw,Ad,Af,Ae]; kernel_rfl
theorem HO (k:Nat):BQ (k+1)=DV k (CB k):=by
 funext _ _ _; simp only[BQ,CB,Ab,DV,sw,Ad,Af,Ae]; kernel_rfl
theorem PB (k:Nat):CV (k+1)=Jk k  := by
 funext _ _ _; simp only[CV,Ab,Jk,sw,Ad,Af,Ae]; kernel_rfl
theorem NX (k n:Nat):DR k (n+1)=I7 k (DR k n):=by
 funext _ _ _ _; simp only[DR,Ab,I7,sw,Ad,Af,Ae]; kernel_rfl
theorem aT (k:Nat):G7 (k+1)=OX k (DR k):=by
 funext _ _ _; simp only[G7,DR,Ab,OX,sw,Ad,Af,Ae]; kernel_rfl
theorem TR (k:Nat):Gz (k+1)=MJ k (A7 k) (BP k) (FK k):=by
 funext _ _ _; simp only[Gz,A7,BP,FK,Ab,MJ,sw,Ad,Af,Ae]; kernel_rfl
theorem NY (k:Nat):C8 (k+1)=I8 k (Fw k):=by
 funext _ _ _; simp only[C8,Fw,Ab,I8,sw,Ad,Af,Ae]; kernel_rfl
theorem Rz (k:Nat):Fw (k+1)=KP k (Db k):=by
 funext _ _ _; simp only[Db,Fw,Ab,KP,sw,Ad,Af,Ae]; kernel_rfl
theorem Ip (k n:Nat):Eh k (n+1)=Fy k (AF k) (Eh k n):=by
 funext _ _ _ _ _; simp only[AF,Eh,Ab,Fy,sw,Ad,Af,Ae]; kernel_rfl
theorem Yg (k:Nat):Ha (k+1)=Mo k (Eh k):=by
 funext _ _ _; simp only[Ha,Eh,Ab,Mo,sw,Ad,Af,Ae]; kernel_rfl
theorem LD (k n:Nat):Df k (n+1)=Ig k (AA k) (Cv k) (GP k) (Df k n):=by
 funext _ _ _ _ _ _ _; simp only[AA,Cv,Df,GP,Ab,Ig,sw,Ad,Af,Ae]; kernel_rfl
theorem Vx (k:Nat):Ht (k+1)=Ox k (F6 k) (AA k) (AE k) (Df k):=by
 funext _ _ _ _; simp only[F6,AA,AE,Ht,Df,Ab,Ox,sw,Ad,Af,Ae]; kernel_rfl
theorem Fl (k n:Nat):Bc k (n+1)=CS k (Js k) (Bc k n):=by
 funext _ _ _ _ _ _ _; simp only[Js,Bc,Ab,CS,sw,Ad,Af,Ae]; kernel_rfl
theorem J0 (k:Nat):CB (k+1)=EV k (Bc k):=by
 funext _ _ _; simp only[CB,Bc,Ab,EV,sw,Ad,Af,Ae]; kernel_rfl
theorem Kq (k n:Nat):D3 k (n+1)=GW k (Dr k) (D3 k n):=by
 funext _ _ _ _; simp only[D3,Dr,Ab,GW,sw,Ad,Af,Ae]; kernel_rfl
theorem SX (k:Nat):FK (k+1)=LY k (D3 k) (Bp k):=by
 funext _ _ _ _; simp only[FK,D3,Bp,Ab,LY,sw,Ad,Af,Ae]; kernel_rfl
theorem Zt (k:Nat):FU (k+1)=Ny k (BA k) (Bz k):=by
 funext _ _ _; simp only[BA,Bz,FU,Ab,Ny,sw,Ad,Af,Ae]; kernel_rfl
theorem Vp (k:Nat):Bz (k+1)=Ke k (Bx k):=by
 funext _ _ _; simp only[Bx,Bz,Ab,Ke,sw,Ad,Af,Ae]; kernel_rfl
theorem TJ (k n:Nat):CM k (n+1)=IJ k (CM k n):=by
 funext _ _ _ _ _ _ _ _ _; simp only[CM,Ab,IJ,sw,Ad,Af,Ae]; kernel_rfl
theorem TI (k n:Nat):CL k (n+1)=II k (CM k) (HU k) (CL k n):=by
 funext _ _ _ _ _ _ _ _ _ _; simp only[CL,CM,HU,Ab,II,sw,Ad,Af,Ae]; kernel_rfl
theorem Wq (k:Nat):BA (k+1)=KF k (Ck k) (CL k):=by
 funext _ _ _ _; simp only[Ck,BA,CL,Ab,KF,sw,Ad,Af,Ae]; kernel_rfl
theorem SL (k n:Nat):Ct k (n+1)=Ic k (Av k) (CT k) (Ct k n):=by
 funext _ _ _ _; simp only[Ct,Av,CT,Ab,Ic,sw,Ad,Af,Ae]; kernel_rfl
theorem Vn (k:Nat):Bx (k+1)=Kb k (Ct k):=by
 funext _ _; simp only[Bx,Ct,Ab,Kb,sw,Ad,Af,Ae]; kernel_rfl
theorem RZ (k n:Nat):Cg k (n+1)=H8 k (BO k) (AY k) (Cg k n):=by
 funext _ _ _ _ _; simp only[Cg,BO,AY,Ab,H8,sw,Ad,Af,Ae]; kernel_rfl
theorem UB (k:Nat):Ck (k+1)=J7 k (Cg k) (Av k):=by
 funext _ _; simp only[Ck,Cg,Av,Ab,J7,sw,Ad,Af,Ae]; kernel_rfl
theorem Zw (k n:Nat):EO k (n+1)=N1 k (DL k) (BP k) (EO k n):=by
 funext _ _ _ _ _ _ _ _ _; simp only[DL,EO,BP,Ab,N1,sw,Ad,Af,Ae]; kernel_rfl
theorem dX (k:Nat):HU (k+1)=RJ k (DL k) (EO k) (Ba k) (F7 k):=by
 funext _ _ _; simp only[HU,DL,EO,Ba,F7,Ab,RJ,sw,Ad,Af,Ae]; kernel_rfl
theorem dY (k:Nat):F7 (k+1)=RK k (CX k):=by
 funext _ _ _; simp only[CX,F7,Ab,RK,sw,Ad,Af,Ae]; kernel_rfl
theorem Zv (k:Nat):DL (k+1)=N0 k  := by
 funext _ _ _ _; simp only[DL,Ab,N0,sw,Ad,Af,Ae]; kernel_rfl
theorem aG (k:Nat):Gv (k+1)=OK k (BA k) (Bz k) (Cd k):=by
 funext _ _ _; simp only[BA,Bz,Gv,Cd,Ab,OK,sw,Ad,Af,Ae]; kernel_rfl
theorem Pf (k:Nat):Cd (k+1)=Gl k (Co k):=by
 funext _ _ _; simp only[Cd,Co,Ab,Gl,sw,Ad,Af,Ae]; kernel_rfl
theorem Xx (k:Nat):Fb (k+1)=LB k  := by
 funext _ _ _ _ _; simp only[Fb,Ab,LB,sw,Ad,Af,Ae]; kernel_rfl
theorem N7 (k n:Nat):Bh k (n+1)=F8 k (AP k) (Bh k n):=by
 funext _ _ _ _ _ _ _ _; simp only[AP,Bh,Ab,F8,sw,Ad,Af,Ae]; kernel_rfl
theorem N9 (k n:Nat):Bj k (n+1)=FA k (BR k) (Bj k n):=by
 funext _ _ _ _ _ _ _ _ _; simp only[Bj,BR,Ab,FA,sw,Ad,Af,Ae]; kernel_rfl
end
end Go.Proofs.YtjbledomkmdkmaaGreat
