/-
 PRINTED BY A PROGRAM OF THIS SESSION'S OWN (gen2.py): the unfolding equations.
-/
import Derived.Test.YtphkfdnecpacmaaGreatP10
set_option maxRecDepth 100000
set_option linter.unusedVariables false
set_option linter.unusedSimpArgs false
set_option linter.unusedSectionVars false
namespace Go.Proofs.YtphkfdnecpacmaaGreat
open Go Go.AX
section
variable [AA] [Kn]
theorem Rs (k:Nat):D6 (k+1)=KM k (Bp k):=by
 funext _ _ _; simp only[Bp,D6,Ab,KM,sw,Ad,Af,Ae]; kernel_rfl
theorem TW (k:Nat):Dp (k+1)=MO k (Da k):=by
 funext _ _ _; simp only[Dp,Da,Ab,MO,sw,Ad,Af,Ae]; kernel_rfl
theorem JA (k:Nat):Bl (k+1)=Gm k (G7 k):=by
 funext _ _ _; simp only[Bl,G7,Ab,Gm,sw,Ad,Af,Ae]; kernel_rfl
theorem ZM (k:Nat):EA (k+1)=Uu k  := by
 funext _ _ _ _; simp only[EA,Ab,Uu,sw,Ad,Af,Ae]; kernel_rfl
theorem oo (k:Nat):Ps (k+1)=bC k (F4 k) (Av k):=by
 funext _ _ _ _; simp only[Ps,F4,Av,Ab,bC,sw,Ad,Af,Ae]; kernel_rfl
theorem Vc (k:Nat):Ec (k+1)=JW k (E8 k) (F4 k) (St k) (DV k) (BO k) (EA k) (FG k):=by
 funext _ _ _ _ _; simp only[Ec,E8,F4,St,DV,BO,EA,FG,Ab,JW,sw,Ad,Af,Ae]; kernel_rfl
theorem SQ (k:Nat):Bp (k+1)=LS k  := by
 funext _ _; simp only[Bp,Ab,LS,sw,Ad,Af,Ae]; kernel_rfl
theorem Q2 (k:Nat):ER (k+1)=JP k  := by
 funext _ _ _; simp only[ER,Ab,JP,sw,Ad,Af,Ae]; kernel_rfl
theorem DD (k n:Nat):Cb k (n+1)=CH k (F5 k) (Cb k n):=by
 funext _ _ _ _ _ _ _; simp only[F5,Cb,Ab,CH,sw,Ad,Af,Ae]; kernel_rfl
theorem IH (k:Nat):EG (k+1)=FE k (Cb k):=by
 funext _ _ _; simp only[EG,Cb,Ab,FE,sw,Ad,Af,Ae]; kernel_rfl
theorem PC (k:Nat):CY (k+1)=Jk k (Bp k):=by
 funext _ _; simp only[CY,Bp,Ab,Jk,sw,Ad,Af,Ae]; kernel_rfl
theorem TM (k:Nat):Gy (k+1)=MF k (A7 k) (CW k):=by
 funext _ _ _ _; simp only[Gy,A7,CW,Ab,MF,sw,Ad,Af,Ae]; kernel_rfl
theorem KT (k n:Nat):DM k (n+1)=Hw k (DM k n):=by
 funext _ _ _ _; simp only[DM,Ab,Hw,sw,Ad,Af,Ae]; kernel_rfl
theorem TP (k:Nat):E9 (k+1)=MI k (DM k):=by
 funext _ _ _; simp only[E9,DM,Ab,MI,sw,Ad,Af,Ae]; kernel_rfl
theorem Vr (k n:Nat):IX k (n+1)=Oq k (Cx k) (IX k n):=by
 funext _ _ _ _ _; simp only[Cx,IX,Ab,Oq,sw,Ad,Af,Ae]; kernel_rfl
theorem fZ (k n:Nat):IW k (n+1)=Ty k (CE k) (IX k) (IW k n):=by
 funext _ _ _ _; simp only[CE,IW,IX,Ab,Ty,sw,Ad,Af,Ae]; kernel_rfl
theorem mq (k:Nat):KW (k+1)=Ze k (IW k):=by
 funext _ _ _; simp only[KW,IW,Ab,Ze,sw,Ad,Af,Ae]; kernel_rfl
theorem K4 (k n:Nat):Cv k (n+1)=FC k (Cv k n):=by
 funext _ _ _ _ _; simp only[Cv,Ab,FC,sw,Ad,Af,Ae]; kernel_rfl
theorem K5 (k n:Nat):Cw k (n+1)=FD k (Cw k n):=by
 funext _ _ _ _ _ _; simp only[Cw,Ab,FD,sw,Ad,Af,Ae]; kernel_rfl
theorem Vq (k:Nat):Eh (k+1)=Kc k (Cv k) (Cw k) (AE k) (Fu k) (J8 k):=by
 funext _ _ _ _ _; simp only[Eh,Cv,Cw,AE,Fu,J8,Ab,Kc,sw,Ad,Af,Ae]; kernel_rfl
theorem W3 (k n:Nat):Kj k (n+1)=Qp k (CF k) (Kj k n):=by
 funext _ _ _ _ _ _; simp only[CF,Kj,Ab,Qp,sw,Ad,Af,Ae]; kernel_rfl
theorem W2 (k n:Nat):Ii k (n+1)=Qo k (CE k) (Js k) (Ft k) (Cx k) (Kj k) (Ii k n):=by
 funext _ _ _ _ _; simp only[CE,Js,Ft,Cx,Ii,Kj,Ab,Qo,sw,Ad,Af,Ae]; kernel_rfl
theorem ov (k:Nat):SK (k+1)=bF k (Ii k):=by
 funext _ _ _ _ _ _; simp only[SK,Ii,Ab,bF,sw,Ad,Af,Ae]; kernel_rfl
theorem aC (k:Nat):G0 (k+1)=OL k (AE k) (Fu k) (J8 k):=by
 funext _ _ _ _; simp only[G0,AE,Fu,J8,Ab,OL,sw,Ad,Af,Ae]; kernel_rfl
theorem jQ (k:Nat):CF (k+1)=Xi k (J7 k):=by
 funext _ _ _ _; simp only[J7,CF,Ab,Xi,sw,Ad,Af,Ae]; kernel_rfl
theorem Ke (k n:Nat):Dv k (n+1)=GN k (Dv k n):=by
 funext _ _ _ _ _ _; simp only[Dv,Ab,GN,sw,Ad,Af,Ae]; kernel_rfl
theorem SH (k:Nat):DW (k+1)=LJ k (Dv k) (A7 k) (CW k) (KU k) (BQ k):=by
 funext _ _ _ _ _ _ _ _; simp only[DW,Dv,A7,CW,KU,BQ,Ab,LJ,sw,Ad,Af,Ae]; kernel_rfl
theorem Pw (k n:Nat):Dx k (n+1)=Ji k (CF k) (Dx k n):=by
 funext _ _ _ _ _ _; simp only[Dx,CF,Ab,Ji,sw,Ad,Af,Ae]; kernel_rfl
theorem bP (k:Nat):Jt (k+1)=Qj k (G3 k) (Dx k) (Fj k) (Fo k) (CF k):=by
 funext _ _ _ _ _ _ _; simp only[G3,Jt,Dx,Fj,Fo,CF,Ab,Qj,sw,Ad,Af,Ae]; kernel_rfl
theorem Qz (k n:Nat):EO k (n+1)=JN k (EO k n):=by
 funext _ _ _ _; simp only[EO,Ab,JN,sw,Ad,Af,Ae]; kernel_rfl
theorem dT (k:Nat):HP (k+1)=RJ k (EO k):=by
 funext _ _ _ _ _ _ _ _ _ _; simp only[HP,EO,Ab,RJ,sw,Ad,Af,Ae]; kernel_rfl
theorem KS (k n:Nat):Dl k (n+1)=Hv k (Gv k) (Dl k n):=by
 funext _ _ _ _ _ _; simp only[Gv,Dl,Ab,Hv,sw,Ad,Af,Ae]; kernel_rfl
theorem TL (k:Nat):Gx (k+1)=ME k (Dl k) (E9 k):=by
 funext _ _ _ _ _; simp only[Gx,Dl,E9,Ab,ME,sw,Ad,Af,Ae]; kernel_rfl
theorem XT (k:Nat):J6 (k+1)=Sp k  := by
 funext _ _ _ _; simp only[J6,Ab,Sp,sw,Ad,Af,Ae]; kernel_rfl
theorem Rr (k:Nat):D5 (k+1)=KL k (Bp k) (D6 k) (B5 k):=by
 funext _ _ _ _; simp only[D5,Bp,D6,B5,Ab,KL,sw,Ad,Af,Ae]; kernel_rfl
theorem TX (k:Nat):EF (k+1)=MP k (Da k):=by
 funext _ _ _ _; simp only[Da,EF,Ab,MP,sw,Ad,Af,Ae]; kernel_rfl
theorem Kk (k n:Nat):Dz k (n+1)=GO k (EF k) (Dz k n):=by
 funext _ _ _ _ _ _; simp only[Dz,EF,Ab,GO,sw,Ad,Af,Ae]; kernel_rfl
theorem SN (k:Nat):DY (k+1)=LP k (Dz k) (D5 k):=by
 funext _ _ _ _ _; simp only[DY,Dz,D5,Ab,LP,sw,Ad,Af,Ae]; kernel_rfl
theorem OY (k n:Nat):Ge k (n+1)=Lk k (AL k) (Ge k n):=by
 funext _ _ _ _ _ _; simp only[AL,Ge,Ab,Lk,sw,Ad,Af,Ae]; kernel_rfl
theorem ZS (k:Nat):Jr (k+1)=U0 k (A9 k) (Ge k):=by
 funext _ _ _; simp only[A9,Jr,Ge,Ab,U0,sw,Ad,Af,Ae]; kernel_rfl
theorem ZT (k:Nat):GH (k+1)=U1 k  := by
 funext _ _ _; simp only[GH,Ab,U1,sw,Ad,Af,Ae]; kernel_rfl
theorem H7 (k n:Nat):BE k (n+1)=Fh k (AL k) (Jq k) (B7 k) (BE k n):=by
 funext _ _ _ _ _ _ _ _; simp only[AL,Jq,BE,B7,Ab,Fh,sw,Ad,Af,Ae]; kernel_rfl
theorem H8 (k n:Nat):Cl k (n+1)=Fi k (Bs k) (Cl k n):=by
 funext _ _ _ _ _ _ _; simp only[Bs,Cl,Ab,Fi,sw,Ad,Af,Ae]; kernel_rfl
theorem NV (k:Nat):DR (k+1)=I0 k (Bv k) (BE k) (Cl k):=by
 funext _ _; simp only[Bv,DR,BE,Cl,Ab,I0,sw,Ad,Af,Ae]; kernel_rfl
theorem Vw (k:Nat):B7 (k+1)=Ox k (AH k) (Cm k):=by
 funext _ _ _; simp only[AH,Cm,B7,Ab,Ox,sw,Ad,Af,Ae]; kernel_rfl
theorem XU (k:Nat):HE (k+1)=Sq k (Hn k):=by
 funext _ _ _ _; simp only[HE,Hn,Ab,Sq,sw,Ad,Af,Ae]; kernel_rfl
theorem SR (k:Nat):Da (k+1)=LU k  := by
 funext _ _; simp only[Da,Ab,LU,sw,Ad,Af,Ae]; kernel_rfl
theorem GI (k n:Nat):Dh k (n+1)=EZ k (Dh k n):=by
 funext _ _ _ _ _ _ _; simp only[Dh,Ab,EZ,sw,Ad,Af,Ae]; kernel_rfl
theorem L7 (k:Nat):G7 (k+1)=HY k (Dh k):=by
 funext _ _ _; simp only[G7,Dh,Ab,HY,sw,Ad,Af,Ae]; kernel_rfl
theorem dJ (k:Nat):F4 (k+1)=R7 k  := by
 funext  _; simp only[F4,Ab,R7,sw,Ad,Af,Ae]; kernel_rfl
theorem Wj (k:Nat):E8 (k+1)=KC k  := by
 funext _ _; simp only[E8,Ab,KC,sw,Ad,Af,Ae]; kernel_rfl
theorem SD (k n:Nat):Ct k (n+1)=HW k (Av k) (Bn k) (Ct k n):=by
 funext _ _ _ _; simp only[Ct,Av,Bn,Ab,HW,sw,Ad,Af,Ae]; kernel_rfl
theorem Ve (k:Nat):Ed (k+1)=JY k (Ct k):=by
 funext _ _ _; simp only[Ed,Ct,Ab,JY,sw,Ad,Af,Ae]; kernel_rfl
theorem SJ (k:Nat):CW (k+1)=LM k (A7 k):=by
 funext _ _ _; simp only[A7,CW,Ab,LM,sw,Ad,Af,Ae]; kernel_rfl
theorem aH (k:Nat):Cx (k+1)=OQ k (AE k):=by
 funext _ _ _; simp only[AE,Cx,Ab,OQ,sw,Ad,Af,Ae]; kernel_rfl
theorem aJ (k:Nat):Fu (k+1)=OS k  := by
 funext _ _ _; simp only[Fu,Ab,OS,sw,Ad,Af,Ae]; kernel_rfl
theorem jR (k:Nat):J8 (k+1)=Xj k  := by
 funext _ _; simp only[J8,Ab,Xj,sw,Ad,Af,Ae]; kernel_rfl
theorem aG (k:Nat):Ft (k+1)=OP k (AE k):=by
 funext _ _ _; simp only[AE,Ft,Ab,OP,sw,Ad,Af,Ae]; kernel_rfl
theorem Pv (k n:Nat):Dw k (n+1)=Jh k (AN k) (CF k) (Dw k n):=by
 funext _ _ _ _ _ _ _ _; simp only[Dw,AN,CF,Ab,Jh,sw,Ad,Af,Ae]; kernel_rfl
theorem bM (k:Nat):Js (k+1)=Qg k (Dw k) (GV k) (Cx k):=by
 funext _ _ _; simp only[Js,Dw,GV,Cx,Ab,Qg,sw,Ad,Af,Ae]; kernel_rfl
theorem ZP (k:Nat):KU (k+1)=Ux k  := by
 funext _ _; simp only[KU,Ab,Ux,sw,Ad,Af,Ae]; kernel_rfl
theorem HG (k:Nat):BQ (k+1)=DU k (CA k):=by
 funext _ _ _; simp only[BQ,CA,Ab,DU,sw,Ad,Af,Ae]; kernel_rfl
theorem Pu (k:Nat):CU (k+1)=Jf k  := by
 funext _ _ _; simp only[CU,Ab,Jf,sw,Ad,Af,Ae]; kernel_rfl
theorem NT (k n:Nat):DQ k (n+1)=Iy k (DQ k n):=by
 funext _ _ _ _; simp only[DQ,Ab,Iy,sw,Ad,Af,Ae]; kernel_rfl
theorem aI (k:Nat):G3 (k+1)=OR k (DQ k):=by
 funext _ _ _; simp only[G3,DQ,Ab,OR,sw,Ad,Af,Ae]; kernel_rfl
theorem TJ (k:Nat):Gv (k+1)=MC k (A7 k) (BP k) (FJ k):=by
 funext _ _ _; simp only[Gv,A7,BP,FJ,Ab,MC,sw,Ad,Af,Ae]; kernel_rfl
theorem NU (k:Nat):C6 (k+1)=Iz k (Fv k):=by
 funext _ _ _; simp only[C6,Fv,Ab,Iz,sw,Ad,Af,Ae]; kernel_rfl
theorem Rt (k:Nat):Fv (k+1)=KN k (Da k):=by
 funext _ _ _; simp only[Da,Fv,Ab,KN,sw,Ad,Af,Ae]; kernel_rfl
theorem Ih (k n:Nat):Ei k (n+1)=Fx k (AE k) (Ei k n):=by
 funext _ _ _ _ _; simp only[AE,Ei,Ab,Fx,sw,Ad,Af,Ae]; kernel_rfl
theorem XV (k:Nat):GV (k+1)=Mh k (Ei k):=by
 funext _ _ _; simp only[GV,Ei,Ab,Mh,sw,Ad,Af,Ae]; kernel_rfl
theorem ZR (k:Nat):Jq (k+1)=Uz k (A9 k):=by
 funext _ _ _; simp only[A9,Jq,Ab,Uz,sw,Ad,Af,Ae]; kernel_rfl
theorem L6 (k n:Nat):De k (n+1)=HX k (AL k) (Cu k) (GH k) (De k n):=by
 funext _ _ _ _ _ _ _; simp only[AL,Cu,De,GH,Ab,HX,sw,Ad,Af,Ae]; kernel_rfl
theorem Vp (k:Nat):Hn (k+1)=Oo k (F5 k) (AL k) (A9 k) (De k):=by
 funext _ _ _ _; simp only[F5,AL,A9,Hn,De,Ab,Oo,sw,Ad,Af,Ae]; kernel_rfl
theorem Fk (k n:Nat):Bb k (n+1)=CR k (Jn k) (Bb k n):=by
 funext _ _ _ _ _ _ _; simp only[Jn,Bb,Ab,CR,sw,Ad,Af,Ae]; kernel_rfl
theorem Jw (k:Nat):CA (k+1)=EU k (Bb k):=by
 funext _ _ _; simp only[CA,Bb,Ab,EU,sw,Ad,Af,Ae]; kernel_rfl
end
end Go.Proofs.YtphkfdnecpacmaaGreat
