/-
 PRINTED BY A PROGRAM OF THIS SESSION'S OWN (gen2.py): the unfolding equations.
-/
import Derived.Test.YtphkfdnecpacmaaGreatP10
set_option maxRecDepth 100000
set_option linter.unusedVariables false
set_option linter.unusedSimpArgs false
set_option linter.unusedSectionVars false
namespace Go.Proofs.YtphkfdnecpacmaaGreat
open Go Go.AX
section
variable [AA] [Kn]
theorem dO (k:Nat):Bq (k+1)=RC k (TR k):=by
 funext _ _ _; simp only[Bq,TR,Ab,RC,sw,Ad,Af,Ae]; kernel_rfl
theorem bN (k:Nat):FI (k+1)=Qh k (AN k) (Kg k) (BW k):=by
 funext _ _ _; simp only[AN,FI,Kg,BW,Ab,Qh,sw,Ad,Af,Ae]; kernel_rfl
theorem TK (k:Nat):DJ (k+1)=MD k (Bd k) (BP k) (Gz k) (Br k):=by
 funext _ _ _; simp only[DJ,Bd,BP,Gz,Br,Ab,MD,sw,Ad,Af,Ae]; kernel_rfl
theorem aF (k:Nat):G2 (k+1)=OO k (AN k) (BW k):=by
 funext _ _ _; simp only[AN,G2,BW,Ab,OO,sw,Ad,Af,Ae]; kernel_rfl
theorem aB (k:Nat):Ig (k+1)=OK k (Cu k) (Ga k):=by
 funext _ _ _ _ _; simp only[Cu,Ig,Ga,Ab,OK,sw,Ad,Af,Ae]; kernel_rfl
theorem bJ (k:Nat):Jo (k+1)=Qd k (FY k) (G4 k) (EP k) (He k) (G5 k) (Ds k):=by
 funext _ _ _ _; simp only[Jo,FY,G4,EP,He,G5,Ds,Ab,Qd,sw,Ad,Af,Ae]; kernel_rfl
theorem dQ (k:Nat):G1 (k+1)=RE k (Kh k):=by
 funext _ _ _; simp only[G1,Kh,Ab,RE,sw,Ad,Af,Ae]; kernel_rfl
theorem fX (k:Nat):IM (k+1)=Tw k (Ll k):=by
 funext _ _ _; simp only[IM,Ll,Ab,Tw,sw,Ad,Af,Ae]; kernel_rfl
theorem il (k:Nat):PE (k+1)=dh k (Av k) (CX k) (J9 k):=by
 funext _ _ _ _ _; simp only[Av,CX,J9,PE,Ab,dh,sw,Ad,Af,Ae]; kernel_rfl
theorem bO (k:Nat):AE (k+1)=Qi k  := by
 funext _ _; simp only[AE,Ab,Qi,sw,Ad,Af,Ae]; kernel_rfl
theorem aL (k:Nat):BZ (k+1)=OU k  := by
 funext _ _; simp only[BZ,Ab,OU,sw,Ad,Af,Ae]; kernel_rfl
theorem Zo (k:Nat):CE (k+1)=Ny k (AE k):=by
 funext _ _; simp only[CE,AE,Ab,Ny,sw,Ad,Af,Ae]; kernel_rfl
theorem Vt (k:Nat):A8 (k+1)=Ou k  := by
 funext _ _; simp only[A8,Ab,Ou,sw,Ad,Af,Ae]; kernel_rfl
theorem Km (k n:Nat):D3 k (n+1)=GQ k (Bs k) (D3 k n):=by
 funext _ _ _ _ _ _ _; simp only[Bs,D3,Ab,GQ,sw,Ad,Af,Ae]; kernel_rfl
theorem SS (k:Nat):Dt (k+1)=LV k (Cc k) (D3 k):=by
 funext _ _; simp only[Cc,Dt,D3,Ab,LV,sw,Ad,Af,Ae]; kernel_rfl
theorem LC (k n:Nat):Et k (n+1)=Ic k (Bs k) (Et k n):=by
 funext _ _ _ _ _ _ _; simp only[Bs,Et,Ab,Ic,sw,Ad,Af,Ae]; kernel_rfl
theorem KY (k:Nat):DE (k+1)=IL k (AH k) (GU k) (Be k) (Gf k) (Co k) (GA k) (Et k):=by
 funext _ _; simp only[AH,GU,Be,Gf,Co,GA,DE,Et,Ab,IL,sw,Ad,Af,Ae]; kernel_rfl
theorem Ru (k:Nat):Be (k+1)=KO k  := by
 funext _ _; simp only[Be,Ab,KO,sw,Ad,Af,Ae]; kernel_rfl
theorem Vh (k:Nat):AH (k+1)=Oi k (A7 k) (CP k):=by
 funext _ _ _; simp only[AH,A7,CP,Ab,Oi,sw,Ad,Af,Ae]; kernel_rfl
theorem TT (k:Nat):CP (k+1)=MM k (Dp k) (D6 k):=by
 funext _ _ _; simp only[CP,Dp,D6,Ab,MM,sw,Ad,Af,Ae]; kernel_rfl
theorem SI (k:Nat):CV (k+1)=LK k (Bd k) (FH k):=by
 funext _ _ _ _ _; simp only[CV,Bd,FH,Ab,LK,sw,Ad,Af,Ae]; kernel_rfl
theorem Xn (k:Nat):J9 (k+1)=Va k (Bl k):=by
 funext _ _ _; simp only[J9,Bl,Ab,Va,sw,Ad,Af,Ae]; kernel_rfl
theorem dU (k:Nat):HQ (k+1)=RK k (Ec k) (Ps k) (EA k) (A8 k) (Co k):=by
 funext _ _ _ _ _ _; simp only[Ec,Ps,EA,HQ,A8,Co,Ab,RK,sw,Ad,Af,Ae]; kernel_rfl
theorem ga (k:Nat):IY (k+1)=Tz k  := by
 funext _ _; simp only[IY,Ab,Tz,sw,Ad,Af,Ae]; kernel_rfl
theorem Ro (k:Nat):Cu (k+1)=KE k (AH k) (CV k):=by
 funext _ _ _ _ _; simp only[AH,Cu,CV,Ab,KE,sw,Ad,Af,Ae]; kernel_rfl
theorem bW (k:Nat):Hi (k+1)=Qs k (Bs k):=by
 funext _ _ _; simp only[Bs,Hi,Ab,Qs,sw,Ad,Af,Ae]; kernel_rfl
theorem NS (k n:Nat):Fc k (n+1)=Ix k (Fc k n):=by
 funext _ _ _ _; simp only[Fc,Ab,Ix,sw,Ad,Af,Ae]; kernel_rfl
theorem aD (k:Nat):AN (k+1)=OM k (Fc k) (AE k):=by
 funext _ _ _; simp only[AN,Fc,AE,Ab,OM,sw,Ad,Af,Ae]; kernel_rfl
theorem PD (k n:Nat):D2 k (n+1)=Jl k (Dp k) (D2 k n):=by
 funext _ _ _ _; simp only[D2,Dp,Ab,Jl,sw,Ad,Af,Ae]; kernel_rfl
theorem SP (k:Nat):CZ (k+1)=LR k (D2 k) (Bp k):=by
 funext _ _ _ _; simp only[CZ,D2,Bp,Ab,LR,sw,Ad,Af,Ae]; kernel_rfl
theorem Ij (k n:Nat):C9 k (n+1)=Fy k (GS k) (C9 k n):=by
 funext _ _ _ _ _ _ _ _; simp only[GS,C9,Ab,Fy,sw,Ad,Af,Ae]; kernel_rfl
theorem En (k n:Nat):C8 k (n+1)=Dn k (C9 k) (C8 k n):=by
 funext _ _ _ _ _; simp only[C8,C9,Ab,Dn,sw,Ad,Af,Ae]; kernel_rfl
theorem PB (k:Nat):Dy (k+1)=Jj k (C8 k):=by
 funext _ _ _; simp only[Dy,C8,Ab,Jj,sw,Ad,Af,Ae]; kernel_rfl
theorem TS (k:Nat):G6 (k+1)=ML k (ER k):=by
 funext _ _ _ _ _; simp only[G6,ER,Ab,ML,sw,Ad,Af,Ae]; kernel_rfl
theorem XY (k:Nat):Cm (k+1)=Ss k (CP k):=by
 funext _ _ _; simp only[CP,Cm,Ab,Ss,sw,Ad,Af,Ae]; kernel_rfl
theorem XW (k:Nat):Ew (k+1)=Sr k (AH k):=by
 funext _ _ _; simp only[AH,Ew,Ab,Sr,sw,Ad,Af,Ae]; kernel_rfl
theorem Ho (k:Nat):B5 (k+1)=EM k (EG k):=by
 funext _ _ _; simp only[B5,EG,Ab,EM,sw,Ad,Af,Ae]; kernel_rfl
theorem Q0 (k:Nat):Cc (k+1)=JO k (Pt k) (Hf k) (Bo k):=by
 funext _ _; simp only[Pt,Cc,Hf,Bo,Ab,JO,sw,Ad,Af,Ae]; kernel_rfl
theorem KR (k:Nat):Ba (k+1)=Hu k (Dk k) (A7 k):=by
 funext _ _ _; simp only[Ba,Dk,A7,Ab,Hu,sw,Ad,Af,Ae]; kernel_rfl
theorem ZN (k:Nat):FG (k+1)=Uv k (EA k):=by
 funext _ _ _ _; simp only[EA,FG,Ab,Uv,sw,Ad,Af,Ae]; kernel_rfl
theorem IG (k n:Nat):CT k (n+1)=FB k (CT k n):=by
 funext _ _ _ _; simp only[CT,Ab,FB,sw,Ad,Af,Ae]; kernel_rfl
theorem Qu (k:Nat):DL (k+1)=JJ k (Ba k) (CT k) (Gy k) (E9 k):=by
 funext _ _ _; simp only[Ba,DL,CT,Gy,E9,Ab,JJ,sw,Ad,Af,Ae]; kernel_rfl
theorem TO (k:Nat):BP (k+1)=MH k (FG k) (FH k):=by
 funext _ _ _; simp only[BP,FG,FH,Ab,MH,sw,Ad,Af,Ae]; kernel_rfl
theorem bR (k:Nat):Ju (k+1)=Qm k  := by
 funext _ _ _ _ _; simp only[Ju,Ab,Qm,sw,Ad,Af,Ae]; kernel_rfl
theorem bS (k:Nat):Jv (k+1)=Qn k  := by
 funext _ _ _ _ _ _; simp only[Jv,Ab,Qn,sw,Ad,Af,Ae]; kernel_rfl
theorem jS (k:Nat):Lu (k+1)=Xk k (G0 k) (Eh k) (Fj k) (Fo k) (KW k) (SK k):=by
 funext _ _ _ _ _ _; simp only[G0,Eh,Fj,Fo,KW,Lu,SK,Ab,Xk,sw,Ad,Af,Ae]; kernel_rfl
theorem jO (k:Nat):Fj (k+1)=Xg k (CF k):=by
 funext _ _ _ _; simp only[Fj,CF,Ab,Xg,sw,Ad,Af,Ae]; kernel_rfl
theorem Nf (k:Nat):Bn (k+1)=H3 k (DW k):=by
 funext _ _ _ _ _; simp only[Bn,DW,Ab,H3,sw,Ad,Af,Ae]; kernel_rfl
theorem mn (k:Nat):Fo (k+1)=Zd k (CF k):=by
 funext _ _ _ _; simp only[Fo,CF,Ab,Zd,sw,Ad,Af,Ae]; kernel_rfl
theorem SE (k:Nat):CS (k+1)=LH k (DW k):=by
 funext _ _ _ _; simp only[CS,DW,Ab,LH,sw,Ad,Af,Ae]; kernel_rfl
theorem aE (k:Nat):Fs (k+1)=ON k (AE k) (Jt k) (HP k) (J7 k):=by
 funext _ _ _ _ _ _; simp only[AE,Fs,Jt,HP,J7,Ab,ON,sw,Ad,Af,Ae]; kernel_rfl
theorem SF (k:Nat):DV (k+1)=LI k (Gx k) (A7 k) (EA k) (FG k) (J6 k) (Br k):=by
 funext _ _ _ _ _ _; simp only[DV,Gx,A7,EA,FG,J6,Br,Ab,LI,sw,Ad,Af,Ae]; kernel_rfl
theorem aK (k:Nat):BW (k+1)=OT k (AN k) (AE k):=by
 funext _ _ _; simp only[AN,AE,BW,Ab,OT,sw,Ad,Af,Ae]; kernel_rfl
theorem dR (k:Nat):Kg (k+1)=RF k  := by
 funext _ _ _; simp only[Kg,Ab,RF,sw,Ad,Af,Ae]; kernel_rfl
theorem TU (k:Nat):Br (k+1)=MN k (D5 k) (EF k):=by
 funext _ _ _ _; simp only[Br,D5,EF,Ab,MN,sw,Ad,Af,Ae]; kernel_rfl
theorem TQ (k:Nat):Gz (k+1)=MJ k  := by
 funext _ _ _ _; simp only[Gz,Ab,MJ,sw,Ad,Af,Ae]; kernel_rfl
theorem Zp (k:Nat):Ga (k+1)=Nz k (HO k) (AN k) (BW k):=by
 funext _ _ _ _ _; simp only[HO,AN,Ga,BW,Ab,Nz,sw,Ad,Af,Ae]; kernel_rfl
theorem Zq (k:Nat):EP (k+1)=N0 k (BZ k):=by
 funext _ _; simp only[BZ,EP,Ab,N0,sw,Ad,Af,Ae]; kernel_rfl
theorem aM (k:Nat):G4 (k+1)=OV k (BZ k):=by
 funext _ _ _; simp only[BZ,G4,Ab,OV,sw,Ad,Af,Ae]; kernel_rfl
theorem aN (k:Nat):G5 (k+1)=OW k (Bo k):=by
 funext _ _ _; simp only[G5,Bo,Ab,OW,sw,Ad,Af,Ae]; kernel_rfl
theorem dS (k:Nat):Kh (k+1)=RH k (AN k) (BW k):=by
 funext _ _ _ _; simp only[AN,BW,Kh,Ab,RH,sw,Ad,Af,Ae]; kernel_rfl
theorem fY (k:Nat):Ll (k+1)=Tx k (Bd k) (Br k):=by
 funext _ _ _ _; simp only[Bd,Ll,Br,Ab,Tx,sw,Ad,Af,Ae]; kernel_rfl
theorem dP (k:Nat):HO (k+1)=RD k (AN k):=by
 funext _ _ _; simp only[HO,AN,Ab,RD,sw,Ad,Af,Ae]; kernel_rfl
theorem jP (k:Nat):J7 (k+1)=Xh k  := by
 funext _ _ _ _; simp only[J7,Ab,Xh,sw,Ad,Af,Ae]; kernel_rfl
theorem TZ (k:Nat):Bs (k+1)=MR k (AH k) (Cm k) (Co k):=by
 funext _ _ _; simp only[AH,Bs,Cm,Co,Ab,MR,sw,Ad,Af,Ae]; kernel_rfl
theorem KX (k n:Nat):Dm k (n+1)=Hx k (DJ k) (Cm k) (Dm k n):=by
 funext _ _ _ _ _ _ _; simp only[DJ,Cm,Dm,Ab,Hx,sw,Ad,Af,Ae]; kernel_rfl
theorem Uc (k:Nat):GA (k+1)=MU k (Ba k) (DL k) (CY k) (DY k) (Be k) (Dm k):=by
 funext _ _; simp only[Ba,DL,CY,DY,Be,GA,Dm,Ab,MU,sw,Ad,Af,Ae]; kernel_rfl
theorem Mo (k n:Nat):DX k (n+1)=Jg k (GH k) (DX k n):=by
 funext _ _ _ _ _ _ _ _; simp only[GH,DX,Ab,Jg,sw,Ad,Af,Ae]; kernel_rfl
theorem W0 (k:Nat):GU (k+1)=Qf k (A9 k) (Jr k) (DX k):=by
 funext _ _ _; simp only[A9,Jr,GU,DX,Ab,Qf,sw,Ad,Af,Ae]; kernel_rfl
theorem Ub (k:Nat):Co (k+1)=MT k (Br k):=by
 funext _ _ _ _; simp only[Br,Co,Ab,MT,sw,Ad,Af,Ae]; kernel_rfl
theorem LA (k n:Nat):Er k (n+1)=Ia k (HE k) (B7 k) (Er k n):=by
 funext _ _ _ _ _ _ _; simp only[HE,Er,B7,Ab,Ia,sw,Ad,Af,Ae]; kernel_rfl
theorem LB (k n:Nat):Es k (n+1)=Ib k (AY k) (Es k n):=by
 funext _ _ _ _; simp only[AY,Es,Ab,Ib,sw,Ad,Af,Ae]; kernel_rfl
theorem Vv (k:Nat):Gf (k+1)=Ow k (Bv k) (Av k) (DR k) (Er k) (Es k) (Dt k):=by
 funext _ _; simp only[Bv,Av,DR,Gf,Er,Es,Dt,Ab,Ow,sw,Ad,Af,Ae]; kernel_rfl
end
end Go.Proofs.YtphkfdnecpacmaaGreat
