/-
 PRINTED BY A PROGRAM OF THIS SESSION'S OWN (gen2.py): the unfolding equations.
-/
import Derived.Test.YtphkfdnecpacmaaGreatP10
set_option maxRecDepth 100000
set_option linter.unusedVariables false
set_option linter.unusedSimpArgs false
set_option linter.unusedSectionVars false
namespace Go.Proofs.YtphkfdnecpacmaaGreat
open Go Go.AX
section
variable [AA] [Kn]
theorem bK (k:Nat):Jp (k+1)=Qe k (Fb k) (BS k) (BA k) (BB k) (Bk k) (D4 k) (Qw k) (Kf k) (GG k) (NR k):=by
 funext _ _ _ _ _ _ _ _ _ _ _; simp only[Fb,BS,BA,BB,Bk,D4,Qw,Kf,Jp,GG,NR,Ab,Qe,sw,Ad,Af,Ae]; kernel_rfl
theorem jN (k:Nat):NR (k+1)=Xf k (KV k) (Ie k):=by
 funext _ _ _ _ _ _ _ _; simp only[KV,Ie,NR,Ab,Xf,sw,Ad,Af,Ae]; kernel_rfl
theorem Nh (k:Nat):BB (k+1)=H5 k (Ao k) (G9 k):=by
 funext _ _; simp only[BB,Ao,G9,Ab,H5,sw,Ad,Af,Ae]; kernel_rfl
theorem NJ (k:Nat):Bk (k+1)=Iq k (Ao k) (Hq k):=by
 funext _ _ _; simp only[Bk,Ao,Hq,Ab,Iq,sw,Ad,Af,Ae]; kernel_rfl
theorem Ng (k:Nat):BA (k+1)=H4 k (Ao k) (G8 k):=by
 funext _ _; simp only[BA,Ao,G8,Ab,H4,sw,Ad,Af,Ae]; kernel_rfl
theorem OX (k n:Nat):Gd k (n+1)=Lj k (Gd k n):=by
 funext _ _ _ _ _ _ _ _; simp only[Gd,Ab,Lj,sw,Ad,Af,Ae]; kernel_rfl
theorem ZQ (k:Nat):D4 (k+1)=Uy k (Gd k):=by
 funext _ _ _; simp only[D4,Gd,Ab,Uy,sw,Ad,Af,Ae]; kernel_rfl
theorem NI (k:Nat):BS (k+1)=Ip k (Ao k) (Hp k):=by
 funext _ _; simp only[BS,Ao,Hp,Ab,Ip,sw,Ad,Af,Ae]; kernel_rfl
theorem Xm (k:Nat):Fb (k+1)=L5 k (Ao k) (Lm k):=by
 funext _ _; simp only[Fb,Ao,Lm,Ab,L5,sw,Ad,Af,Ae]; kernel_rfl
theorem Qx (k n:Nat):FV k (n+1)=JL k (FV k n):=by
 funext _ _ _ _; simp only[FV,Ab,JL,sw,Ad,Af,Ae]; kernel_rfl
theorem dN (k:Nat):Kf (k+1)=RB k (FV k) (FX k):=by
 funext _ _ _; simp only[Kf,FV,FX,Ab,RB,sw,Ad,Af,Ae]; kernel_rfl
theorem Vl (k n:Nat):IP k (n+1)=Ok k (Av k) (BO k) (AY k) (IP k n):=by
 funext _ _ _ _; simp only[Av,BO,AY,IP,Ab,Ok,sw,Ad,Af,Ae]; kernel_rfl
theorem Vn (k n:Nat):IU k (n+1)=Om k (AL k) (IU k n):=by
 funext _ _ _ _; simp only[AL,IU,Ab,Om,sw,Ad,Af,Ae]; kernel_rfl
theorem Vo (k n:Nat):IV k (n+1)=On k (HL k) (IV k n):=by
 funext _ _ _ _; simp only[HL,IV,Ab,On,sw,Ad,Af,Ae]; kernel_rfl
theorem Vm (k n:Nat):IQ k (n+1)=Ol k (FF k) (Gw k) (A9 k) (IU k) (IV k) (IQ k n):=by
 funext _ _ _ _ _ _ _; simp only[FF,Gw,A9,IQ,IU,IV,Ab,Ol,sw,Ad,Af,Ae]; kernel_rfl
theorem ml (k:Nat):Qw (k+1)=Zc k (Bv k) (Gu k) (IP k) (IQ k):=by
 funext _ _; simp only[Bv,Gu,Qw,IP,IQ,Ab,Zc,sw,Ad,Af,Ae]; kernel_rfl
theorem Vg (k:Nat):Bv (k+1)=Oh k (Dk k) (A7 k):=by
 funext _ _; simp only[Bv,Dk,A7,Ab,Oh,sw,Ad,Af,Ae]; kernel_rfl
theorem Vk (k:Nat):Eg (k+1)=Kb k (Ao k) (Hh k):=by
 funext _ _; simp only[Eg,Ao,Hh,Ab,Kb,sw,Ad,Af,Ae]; kernel_rfl
theorem Vj (k:Nat):Ee (k+1)=Ka k (Ao k) (Hg k):=by
 funext _ _ _; simp only[Ee,Ao,Hg,Ab,Ka,sw,Ad,Af,Ae]; kernel_rfl
theorem Rn (k:Nat):Av (k+1)=KD k (A7 k):=by
 funext _ _; simp only[Av,A7,Ab,KD,sw,Ad,Af,Ae]; kernel_rfl
theorem Ml (k:Nat):A9 (k+1)=Jc k (Bd k) (FH k):=by
 funext _ _ _; simp only[A9,Bd,FH,Ab,Jc,sw,Ad,Af,Ae]; kernel_rfl
theorem Wl (k:Nat):EC (k+1)=KH k (Ao k) (HR k):=by
 funext _ _; simp only[EC,Ao,HR,Ab,KH,sw,Ad,Af,Ae]; kernel_rfl
theorem NL (k n:Nat):Cy k (n+1)=Is k (Hy k) (NQ k) (Cy k n):=by
 funext _ _ _ _; simp only[Cy,Hy,NQ,Ab,Is,sw,Ad,Af,Ae]; kernel_rfl
theorem NM (k n:Nat):Cz k (n+1)=It k (DJ k) (Bq k) (FI k) (Cz k n):=by
 funext _ _ _ _; simp only[DJ,Cz,Bq,FI,Ab,It,sw,Ad,Af,Ae]; kernel_rfl
theorem NN (k n:Nat):BU k (n+1)=Iu k (Bq k) (Ig k) (G2 k) (BU k n):=by
 funext _ _ _ _; simp only[BU,Bq,Ig,G2,Ab,Iu,sw,Ad,Af,Ae]; kernel_rfl
theorem NO (k n:Nat):C0 k (n+1)=Iv k (Bq k) (Jo k) (C0 k n):=by
 funext _ _ _ _; simp only[C0,Bq,Jo,Ab,Iv,sw,Ad,Af,Ae]; kernel_rfl
theorem NP (k n:Nat):C5 k (n+1)=Iw k (IM k) (Bq k) (G1 k) (C5 k n):=by
 funext _ _ _ _; simp only[IM,C5,Bq,G1,Ab,Iw,sw,Ad,Af,Ae]; kernel_rfl
theorem aA (k:Nat):Ie (k+1)=OJ k (J5 k) (Cy k) (Cz k) (BU k) (C0 k) (C5 k) (Pz k) (PA k) (HF k):=by
 funext _ _ _ _ _ _ _ _; simp only[J5,Ie,Cy,Cz,BU,C0,C5,Pz,PA,HF,Ab,OJ,sw,Ad,Af,Ae]; kernel_rfl
theorem eK (k:Nat):KV (k+1)=Zb k (PE k):=by
 funext _ _ _; simp only[KV,PE,Ab,Zb,sw,Ad,Af,Ae]; kernel_rfl
theorem NK (k:Nat):Ao (k+1)=Ir k  := by
 funext _ _; simp only[Ao,Ab,Ir,sw,Ad,Af,Ae]; kernel_rfl
theorem Ua (k:Nat):G9 (k+1)=MS k (Mp k) (A8 k) (Dt k):=by
 funext _ _; simp only[Mp,A8,G9,Dt,Ab,MS,sw,Ad,Af,Ae]; kernel_rfl
theorem L9 (k n:Nat):Ep k (n+1)=HZ k (DE k) (Ep k n):=by
 funext _ _ _ _; simp only[Ep,DE,Ab,HZ,sw,Ad,Af,Ae]; kernel_rfl
theorem Vu (k:Nat):Hq (k+1)=Ov k (A8 k) (Ep k):=by
 funext _ _ _; simp only[A8,Hq,Ep,Ab,Ov,sw,Ad,Af,Ae]; kernel_rfl
theorem TY (k:Nat):G8 (k+1)=MQ k (A8 k):=by
 funext _ _; simp only[A8,G8,Ab,MQ,sw,Ad,Af,Ae]; kernel_rfl
theorem Vs (k:Nat):Hp (k+1)=Ot k (Be k) (A8 k):=by
 funext _ _; simp only[Be,Hp,A8,Ab,Ot,sw,Ad,Af,Ae]; kernel_rfl
theorem gb (k:Nat):Lm (k+1)=T0 k (Be k) (A8 k):=by
 funext _ _; simp only[Be,Lm,A8,Ab,T0,sw,Ad,Af,Ae]; kernel_rfl
theorem ay (k:Nat):Gu (k+1)=OH k (A7 k):=by
 funext _ _; simp only[Gu,A7,Ab,OH,sw,Ad,Af,Ae]; kernel_rfl
theorem Mn (k:Nat):AY (k+1)=Je k (Av k):=by
 funext _ _ _; simp only[Av,AY,Ab,Je,sw,Ad,Af,Ae]; kernel_rfl
theorem Mm (k:Nat):BO (k+1)=Jd k (Av k):=by
 funext _ _ _; simp only[Av,BO,Ab,Jd,sw,Ad,Af,Ae]; kernel_rfl
theorem az (k:Nat):Gw (k+1)=OI k (AH k) (CP k):=by
 funext _ _ _; simp only[AH,Gw,CP,Ab,OI,sw,Ad,Af,Ae]; kernel_rfl
theorem bH (k:Nat):FF (k+1)=Qb k (Bd k):=by
 funext _ _ _; simp only[FF,Bd,Ab,Qb,sw,Ad,Af,Ae]; kernel_rfl
theorem Vi (k:Nat):AL (k+1)=Oj k (CV k):=by
 funext _ _ _ _; simp only[AL,CV,Ab,Oj,sw,Ad,Af,Ae]; kernel_rfl
theorem dK (k:Nat):HL (k+1)=R8 k (CV k):=by
 funext _ _ _ _; simp only[HL,CV,Ab,R8,sw,Ad,Af,Ae]; kernel_rfl
theorem eJ (k:Nat):J5 (k+1)=Za k (J9 k):=by
 funext _ _; simp only[J5,J9,Ab,Za,sw,Ad,Af,Ae]; kernel_rfl
theorem bT (k:Nat):HF (k+1)=Wz k  := by
 funext _ _; simp only[HF,Ab,Wz,sw,Ad,Af,Ae]; kernel_rfl
theorem Wk (k:Nat):EB (k+1)=KG k (Ao k) (HQ k):=by
 funext _ _ _ _ _ _; simp only[EB,Ao,HQ,Ab,KG,sw,Ad,Af,Ae]; kernel_rfl
theorem SL (k:Nat):Ds (k+1)=LN k (ES k):=by
 funext _ _ _ _ _ _; simp only[Ds,ES,Ab,LN,sw,Ad,Af,Ae]; kernel_rfl
theorem Wm (k:Nat):ED (k+1)=KI k (Cu k) (Ao k) (IY k) (A8 k) (Hi k):=by
 funext _ _ _ _ _; simp only[Cu,ED,Ao,IY,A8,Hi,Ab,KI,sw,Ad,Af,Ae]; kernel_rfl
theorem Zn (k:Nat):FY (k+1)=Nx k (EE k):=by
 funext _ _ _; simp only[FY,EE,Ab,Nx,sw,Ad,Af,Ae]; kernel_rfl
theorem jL (k:Nat):NQ (k+1)=Xd k  := by
 funext _ _ _ _ _; simp only[NQ,Ab,Xd,sw,Ad,Af,Ae]; kernel_rfl
theorem TN (k:Nat):A7 (k+1)=MG k  := by
 funext _ _; simp only[A7,Ab,MG,sw,Ad,Af,Ae]; kernel_rfl
theorem Gk (k n:Nat):B9 k (n+1)=Ez k (CZ k) (B9 k n):=by
 funext _ _ _ _ _ _; simp only[B9,CZ,Ab,Ez,sw,Ad,Af,Ae]; kernel_rfl
theorem Qv (k:Nat):Dk (k+1)=JK k (B9 k) (CZ k):=by
 funext _ _ _ _; simp only[Dk,B9,CZ,Ab,JK,sw,Ad,Af,Ae]; kernel_rfl
theorem XX (k n:Nat):Eo k (n+1)=Mi k (DE k) (Eo k n):=by
 funext _ _ _; simp only[Eo,DE,Ab,Mi,sw,Ad,Af,Ae]; kernel_rfl
theorem bV (k:Nat):Hh (k+1)=Qr k (Eo k) (A8 k):=by
 funext _ _; simp only[Hh,Eo,A8,Ab,Qr,sw,Ad,Af,Ae]; kernel_rfl
theorem Rq (k:Nat):Bo (k+1)=KK k  := by
 funext _ _; simp only[Bo,Ab,KK,sw,Ad,Af,Ae]; kernel_rfl
theorem SM (k:Nat):Hf (k+1)=LO k  := by
 funext _ _; simp only[Hf,Ab,LO,sw,Ad,Af,Ae]; kernel_rfl
theorem Q3 (k:Nat):ES (k+1)=JQ k (G6 k) (Bo k):=by
 funext _ _ _ _ _; simp only[G6,Bo,ES,Ab,JQ,sw,Ad,Af,Ae]; kernel_rfl
theorem bU (k:Nat):Hg (k+1)=Qq k (AH k) (A8 k) (Cm k):=by
 funext _ _ _; simp only[AH,Hg,A8,Cm,Ab,Qq,sw,Ad,Af,Ae]; kernel_rfl
theorem Rp (k:Nat):Bd (k+1)=KF k (AH k) (A7 k):=by
 funext _ _ _; simp only[AH,A7,Bd,Ab,KF,sw,Ad,Af,Ae]; kernel_rfl
theorem ZO (k:Nat):FH (k+1)=Uw k  := by
 funext _ _; simp only[FH,Ab,Uw,sw,Ad,Af,Ae]; kernel_rfl
theorem RS (k n:Nat):HI k (n+1)=NH k (AL k) (Ew k) (HI k n):=by
 funext _ _ _ _ _; simp only[AL,Ew,HI,Ab,NH,sw,Ad,Af,Ae]; kernel_rfl
theorem RR (k n:Nat):HH k (n+1)=NG k (A9 k) (HI k) (HH k n):=by
 funext _ _ _ _ _ _ _; simp only[A9,HH,HI,Ab,NG,sw,Ad,Af,Ae]; kernel_rfl
theorem eR (k:Nat):Mp (k+1)=Zf k (Bv k) (Cc k) (B5 k) (HH k):=by
 funext _ _ _; simp only[Bv,Cc,B5,Mp,HH,Ab,Zf,sw,Ad,Af,Ae]; kernel_rfl
theorem dV (k:Nat):HR (k+1)=RL k (A8 k):=by
 funext _ _; simp only[HR,A8,Ab,RL,sw,Ad,Af,Ae]; kernel_rfl
theorem Wn (k:Nat):EE (k+1)=KJ k (BZ k):=by
 funext _ _; simp only[BZ,EE,Ab,KJ,sw,Ad,Af,Ae]; kernel_rfl
theorem W1 (k n:Nat):Ki k (n+1)=Qk k (Ki k n):=by
 funext _ _ _ _; simp only[Ki,Ab,Qk,sw,Ad,Af,Ae]; kernel_rfl
theorem ou (k:Nat):PA (k+1)=bE k (Ki k):=by
 funext _ _; simp only[PA,Ki,Ab,bE,sw,Ad,Af,Ae]; kernel_rfl
theorem Ni (k:Nat):CX (k+1)=H6 k (Bo k):=by
 funext _ _; simp only[CX,Bo,Ab,H6,sw,Ad,Af,Ae]; kernel_rfl
theorem bQ (k:Nat):He (k+1)=Ql k (BZ k) (Ju k) (Jv k):=by
 funext _ _ _ _ _ _; simp only[BZ,He,Ju,Jv,Ab,Ql,sw,Ad,Af,Ae]; kernel_rfl
theorem oq (k:Nat):Pz (k+1)=bD k  := by
 funext _ _; simp only[Pz,Ab,bD,sw,Ad,Af,Ae]; kernel_rfl
theorem Zm (k:Nat):Hy (k+1)=Nw k (CS k) (Bn k) (DV k) (AY k) (Fs k) (Fj k) (Fo k) (Lu k):=by
 funext _ _ _ _ _ _; simp only[CS,Bn,DV,AY,Hy,Fs,Fj,Fo,Lu,Ab,Nw,sw,Ad,Af,Ae]; kernel_rfl
end
end Go.Proofs.YtphkfdnecpacmaaGreat
