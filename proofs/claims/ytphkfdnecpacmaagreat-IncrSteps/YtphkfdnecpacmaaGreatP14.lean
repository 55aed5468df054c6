/-
 PRINTED BY A PROGRAM OF THIS SESSION'S OWN (gen2.py): the unfolding equations.
-/
import Derived.Test.YtphkfdnecpacmaaGreatP10
set_option maxRecDepth 100000
set_option linter.unusedVariables false
set_option linter.unusedSimpArgs false
set_option linter.unusedSectionVars false
namespace Go.Proofs.YtphkfdnecpacmaaGreat
open Go Go.AX
section
variable [AA] [Kn]
theorem Kl (k n:Nat):D0 k (n+1)=GP k (Dp k) (D0 k n):=by
 funext _ _ _ _; simp only[D0,Dp,Ab,GP,sw,Ad,Af,Ae]; kernel_rfl
theorem SO (k:Nat):FJ (k+1)=LQ k (D0 k) (Bp k):=by
 funext _ _ _ _; simp only[FJ,D0,Bp,Ab,LQ,sw,Ad,Af,Ae]; kernel_rfl
theorem Zi (k:Nat):FT (k+1)=Ns k (B8 k) (Bz k):=by
 funext _ _ _; simp only[B8,Bz,FT,Ab,Ns,sw,Ad,Af,Ae]; kernel_rfl
theorem Vf (k:Nat):Bz (k+1)=JZ k (Bx k):=by
 funext _ _ _; simp only[Bx,Bz,Ab,JZ,sw,Ad,Af,Ae]; kernel_rfl
theorem TA (k n:Nat):CK k (n+1)=IC k (CK k n):=by
 funext _ _ _ _ _ _ _ _ _; simp only[CK,Ab,IC,sw,Ad,Af,Ae]; kernel_rfl
theorem T9 (k n:Nat):CJ k (n+1)=IB k (CK k) (HN k) (CJ k n):=by
 funext _ _ _ _ _ _ _ _ _ _; simp only[CJ,CK,HN,Ab,IB,sw,Ad,Af,Ae]; kernel_rfl
theorem Wh (k:Nat):B8 (k+1)=KA k (Cj k) (CJ k):=by
 funext _ _ _ _; simp only[Cj,B8,CJ,Ab,KA,sw,Ad,Af,Ae]; kernel_rfl
theorem SC (k n:Nat):Cs k (n+1)=HV k (Av k) (CS k) (Cs k n):=by
 funext _ _ _ _; simp only[Cs,Av,CS,Ab,HV,sw,Ad,Af,Ae]; kernel_rfl
theorem Vd (k:Nat):Bx (k+1)=JX k (Cs k):=by
 funext _ _; simp only[Bx,Cs,Ab,JX,sw,Ad,Af,Ae]; kernel_rfl
theorem RQ (k n:Nat):Cf k (n+1)=H2 k (BO k) (AY k) (Cf k n):=by
 funext _ _ _ _ _; simp only[Cf,BO,AY,Ab,H2,sw,Ad,Af,Ae]; kernel_rfl
theorem U2 (k:Nat):Cj (k+1)=J3 k (Cf k) (Av k):=by
 funext _ _; simp only[Cj,Cf,Av,Ab,J3,sw,Ad,Af,Ae]; kernel_rfl
theorem Zl (k n:Nat):EN k (n+1)=Nv k (DK k) (BP k) (EN k n):=by
 funext _ _ _ _ _ _ _ _ _; simp only[DK,EN,BP,Ab,Nv,sw,Ad,Af,Ae]; kernel_rfl
theorem dL (k:Nat):HN (k+1)=R9 k (DK k) (EN k) (Ba k) (F6 k):=by
 funext _ _ _; simp only[HN,DK,EN,Ba,F6,Ab,R9,sw,Ad,Af,Ae]; kernel_rfl
theorem dM (k:Nat):F6 (k+1)=RA k (CW k):=by
 funext _ _ _; simp only[CW,F6,Ab,RA,sw,Ad,Af,Ae]; kernel_rfl
theorem Zk (k:Nat):DK (k+1)=Nu k  := by
 funext _ _ _ _; simp only[DK,Ab,Nu,sw,Ad,Af,Ae]; kernel_rfl
theorem av (k:Nat):Gr (k+1)=OD k (B8 k) (Bz k) (Cd k):=by
 funext _ _ _; simp only[B8,Bz,Gr,Cd,Ab,OD,sw,Ad,Af,Ae]; kernel_rfl
theorem OZ (k:Nat):Cd (k+1)=Gi k (Cn k):=by
 funext _ _ _; simp only[Cd,Cn,Ab,Gi,sw,Ad,Af,Ae]; kernel_rfl
theorem Xl (k:Nat):Fa (k+1)=Lz k  := by
 funext _ _ _ _ _; simp only[Fa,Ab,Lz,sw,Ad,Af,Ae]; kernel_rfl
theorem N1 (k n:Nat):Bh k (n+1)=F7 k (AO k) (Bh k n):=by
 funext _ _ _ _ _ _ _ _; simp only[AO,Bh,Ab,F7,sw,Ad,Af,Ae]; kernel_rfl
theorem N3 (k n:Nat):Bj k (n+1)=F9 k (BR k) (Bj k n):=by
 funext _ _ _ _ _ _ _ _ _; simp only[Bj,BR,Ab,F9,sw,Ad,Af,Ae]; kernel_rfl
theorem N2 (k n:Nat):Bi k (n+1)=F8 k (Bj k) (BR k) (Bi k n):=by
 funext _ _ _ _ _ _ _; simp only[Bi,Bj,BR,Ab,F8,sw,Ad,Af,Ae]; kernel_rfl
theorem PS (k:Nat):Cn (k+1)=Gq k (AO k) (Bh k) (Bi k):=by
 funext _ _ _ _; simp only[AO,Cn,Bh,Bi,Ab,Gq,sw,Ad,Af,Ae]; kernel_rfl
theorem K3 (k n:Nat):AR k (n+1)=DP k (Qt k) (AR k n):=by
 funext _ _ _ _ _ _ _; simp only[Qt,AR,Ab,DP,sw,Ad,Af,Ae]; kernel_rfl
theorem K2 (k n:Nat):AQ k (n+1)=DO k (AR k) (AQ k n):=by
 funext _ _ _ _ _ _ _ _; simp only[AQ,AR,Ab,DO,sw,Ad,Af,Ae]; kernel_rfl
theorem L8 (k:Nat):AO (k+1)=E6 k (AQ k):=by
 funext _ _ _ _ _; simp only[AO,AQ,Ab,E6,sw,Ad,Af,Ae]; kernel_rfl
theorem ax (k:Nat):Gt (k+1)=OG k (B8 k) (Bz k):=by
 funext _ _ _; simp only[B8,Bz,Gt,Ab,OG,sw,Ad,Af,Ae]; kernel_rfl
theorem aw (k:Nat):Gs (k+1)=OE k (Ck k):=by
 funext _ _ _; simp only[Ck,Gs,Ab,OE,sw,Ad,Af,Ae]; kernel_rfl
theorem U3 (k:Nat):Ck (k+1)=J4 k (Bx k) (Fz k) (EV k):=by
 funext _ _ _ _; simp only[Bx,Ck,Fz,EV,Ab,J4,sw,Ad,Af,Ae]; kernel_rfl
theorem dI (k:Nat):Fz (k+1)=R6 k  := by
 funext _ _ _; simp only[Fz,Ab,R6,sw,Ad,Af,Ae]; kernel_rfl
theorem bG (k:Nat):EV (k+1)=Qa k  := by
 funext _ _ _; simp only[EV,Ab,Qa,sw,Ad,Af,Ae]; kernel_rfl
theorem Zj (k:Nat):FU (k+1)=Nt k (Ck k) (E7 k) (Fz k) (EV k):=by
 funext _ _ _; simp only[Ck,E7,Fz,EV,FU,Ab,Nt,sw,Ad,Af,Ae]; kernel_rfl
theorem TE (k n:Nat):CN k (n+1)=IF k (CN k n):=by
 funext _ _ _ _ _; simp only[CN,Ab,IF,sw,Ad,Af,Ae]; kernel_rfl
theorem TD (k n:Nat):CM k (n+1)=IE k (CN k) (CM k n):=by
 funext _ _ _ _ _ _ _ _; simp only[CM,CN,Ab,IE,sw,Ad,Af,Ae]; kernel_rfl
theorem TB (k n:Nat):CL k (n+1)=ID k (CM k) (Hd k) (CL k n):=by
 funext _ _ _ _ _ _ _ _; simp only[CL,CM,Hd,Ab,ID,sw,Ad,Af,Ae]; kernel_rfl
theorem Wi (k:Nat):E7 (k+1)=KB k (Bx k) (Cj k) (CL k):=by
 funext _ _; simp only[Bx,Cj,E7,CL,Ab,KB,sw,Ad,Af,Ae]; kernel_rfl
theorem XS (k n:Nat):Em k (n+1)=Mg k (Em k n):=by
 funext _ _ _ _ _; simp only[Em,Ab,Mg,sw,Ad,Af,Ae]; kernel_rfl
theorem XR (k n:Nat):Ek k (n+1)=Mf k (Em k) (BP k) (Ek k n):=by
 funext _ _ _ _ _ _ _ _ _; simp only[Ek,Em,BP,Ab,Mf,sw,Ad,Af,Ae]; kernel_rfl
theorem bI (k:Nat):Hd (k+1)=Qc k (Ek k) (Ba k) (F6 k):=by
 funext _ _ _; simp only[Hd,Ek,Ba,F6,Ab,Qc,sw,Ad,Af,Ae]; kernel_rfl
theorem gr (k:Nat) (x0_0:Int) (x0_1:Int) (x0_2:Option Addr × Nat × Nat) (x0_3:Option Addr × Nat × Nat) (x0_4:Option Addr × Nat × Nat) (x0_5:Option Addr × Nat × Nat) (x0_6:Option Addr × Nat × Nat) (x1:Int) (x2:Int) (x3:Int) (σ:Aa):fn P (XK Kn.b) H k 3 [.agg #[.int .u8 x0_0,.int .u8 x0_1,.slice x0_2.1 x0_2.2.1 x0_2.2.2,.slice x0_3.1 x0_3.2.1 x0_3.2.2,.slice x0_4.1 x0_4.2.1 x0_4.2.2,.slice x0_5.1 x0_5.2.1 x0_5.2.2,.slice x0_6.1 x0_6.2.1 x0_6.2.2],.int .u8 x1,.int .u8 x2,.int .u8 x3] σ=Jp k x0_0 x0_1 x0_2 x0_3 x0_4 x0_5 x0_6 x1 x2 x3 σ:=by
 simp only[Jp,Ab]
theorem T8 (k:Nat) (x0:Value) (c0:Option Addr) (σ:Aa):Pt k (.func (.func 152) #[] #[.pointer c0]) [x0] σ=Dy k x0 c0 σ:=by
 simp only[Pt,Dy,Ab]; kernel_rfl
theorem au (k:Nat) (x0:Int) (c0:Option Addr) (σ:Aa):F5 k (.func (.func 160) #[] #[.pointer c0]) [.int .i64 x0] σ=Ew k x0 c0 σ:=by
 simp only[F5,Ew,Ab]; kernel_rfl
theorem SA (k:Nat) (x0:Int) (c0:Option Addr) (σ:Aa):F5 k (.func (.func 281) #[] #[.pointer c0]) [.int .i64 x0] σ=C6 k x0 c0 σ:=by
 simp only[F5,C6,Ab]; kernel_rfl
theorem SB (k:Nat) (x0_0:Int) (x0_1:Int) (σ:Aa):Jn k (.func (.func 278) #[] #[]) [.agg #[.int .i64 x0_0,.int .i64 x0_1]] σ=CU k x0_0 x0_1 σ:=by
 simp only[Jn,CU,Ab]; kernel_rfl
theorem Jm (k:Nat) (h:Nat) (qh0:Nat) (z0_0:Int) (z0_1:Int) (z0_2:Int) (z1:Option Addr) (σ:Aa) (hσ:σ[h]?=some (.loop 162 .ready (Lc 0 26 [(3,.pointer (some ⟨qh0,0,none⟩))]))):GS (k+1) (.func (.yield h) #[] #[]) [.agg #[.int .i64 z0_0,.int .i64 z0_1,.int .i64 z0_2],.pointer z1] σ=EY k (Bl k) h qh0 z0_0 z0_1 z0_2 z1 σ:=by
 simp only[GS,Bl,Ab,EY,sw,Ad,Af,Ae]
 exact (Aeh (F:=Tryz.f162) (c:=BM Tryz.f162) (x:=(CG (BM Tryz.f162)).getD default) hσ (by kernel_rfl) (by kernel_rfl) (by kernel_rfl) (by kernel_rfl) (by kernel_rfl) (by kernel_rfl)).trans (by kernel_rfl)
end
end Go.Proofs.YtphkfdnecpacmaaGreat
