/-
 PRINTED BY A PROGRAM OF THIS SESSION'S OWN (gen2.py): the unfolding equations.
-/
import Derived.Test.YtjbledomkmdkmaaGreatP11
set_option maxRecDepth 100000
set_option linter.unusedVariables false
set_option linter.unusedSimpArgs false
set_option linter.unusedSectionVars false
namespace Go.Proofs.YtjbledomkmdkmaaGreat
open Go Go.AX
section
variable [A9] [Kn]
theorem N8 (k n:Nat):Bi k (n+1)=F9 k (Bj k) (BR k) (Bi k n):=by
 funext _ _ _ _ _ _ _; simp only[Bi,Bj,BR,Ab,F9,sw,Ad,Af,Ae]; kernel_rfl
theorem PZ (k:Nat):Co (k+1)=Gu k (AP k) (Bh k) (Bi k):=by
 funext _ _ _ _; simp only[AP,Co,Bh,Bi,Ab,Gu,sw,Ad,Af,Ae]; kernel_rfl
theorem K8 (k n:Nat):AR k (n+1)=DQ k (Qz k) (AR k n):=by
 funext _ _ _ _ _ _ _; simp only[Qz,AR,Ab,DQ,sw,Ad,Af,Ae]; kernel_rfl
theorem K7 (k n:Nat):AQ k (n+1)=DP k (AR k) (AQ k n):=by
 funext _ _ _ _ _ _ _ _; simp only[AQ,AR,Ab,DP,sw,Ad,Af,Ae]; kernel_rfl
theorem LG (k:Nat):AP (k+1)=E7 k (AQ k):=by
 funext _ _ _ _ _; simp only[AP,AQ,Ab,E7,sw,Ad,Af,Ae]; kernel_rfl
theorem aI (k:Nat):Gx (k+1)=OM k (BA k) (Bz k):=by
 funext _ _ _; simp only[BA,Bz,Gx,Ab,OM,sw,Ad,Af,Ae]; kernel_rfl
theorem aH (k:Nat):Gw (k+1)=OL k (Cl k):=by
 funext _ _ _; simp only[Cl,Gw,Ab,OL,sw,Ad,Af,Ae]; kernel_rfl
theorem UC (k:Nat):Cl (k+1)=J8 k (Bx k) (F4 k) (EW k):=by
 funext _ _ _ _; simp only[Bx,Cl,F4,EW,Ab,J8,sw,Ad,Af,Ae]; kernel_rfl
theorem dU (k:Nat):F4 (k+1)=RE k  := by
 funext _ _ _; simp only[F4,Ab,RE,sw,Ad,Af,Ae]; kernel_rfl
theorem bR (k:Nat):EW (k+1)=Qg k  := by
 funext _ _ _; simp only[EW,Ab,Qg,sw,Ad,Af,Ae]; kernel_rfl
theorem Zu (k:Nat):FV (k+1)=Nz k (Cl k) (E8 k) (F4 k) (EW k):=by
 funext _ _ _; simp only[Cl,E8,F4,EW,FV,Ab,Nz,sw,Ad,Af,Ae]; kernel_rfl
theorem TM (k n:Nat):CP k (n+1)=IM k (CP k n):=by
 funext _ _ _ _ _; simp only[CP,Ab,IM,sw,Ad,Af,Ae]; kernel_rfl
theorem TL (k n:Nat):CO k (n+1)=IL k (CP k) (CO k n):=by
 funext _ _ _ _ _ _ _ _; simp only[CO,CP,Ab,IL,sw,Ad,Af,Ae]; kernel_rfl
theorem TK (k n:Nat):CN k (n+1)=IK k (CO k) (Hi k) (CN k n):=by
 funext _ _ _ _ _ _ _ _; simp only[CN,CO,Hi,Ab,IK,sw,Ad,Af,Ae]; kernel_rfl
theorem Wr (k:Nat):E8 (k+1)=KG k (Bx k) (Ck k) (CN k):=by
 funext _ _; simp only[Bx,Ck,E8,CN,Ab,KG,sw,Ad,Af,Ae]; kernel_rfl
theorem Yd (k n:Nat):En k (n+1)=Mn k (En k n):=by
 funext _ _ _ _ _; simp only[En,Ab,Mn,sw,Ad,Af,Ae]; kernel_rfl
theorem Yc (k n:Nat):Em k (n+1)=Mm k (En k) (BP k) (Em k n):=by
 funext _ _ _ _ _ _ _ _ _; simp only[Em,En,BP,Ab,Mm,sw,Ad,Af,Ae]; kernel_rfl
theorem bT (k:Nat):Hi (k+1)=Qi k (Em k) (Ba k) (F7 k):=by
 funext _ _ _; simp only[Hi,Em,Ba,F7,Ab,Qi,sw,Ad,Af,Ae]; kernel_rfl
theorem gE (k:Nat) (x0_0:Int) (x0_1:Int) (x0_2:Option Addr × Nat × Nat) (x0_3:Option Addr × Nat × Nat) (x0_4:Option Addr × Nat × Nat) (x0_5:Option Addr × Nat × Nat) (x0_6:Option Addr × Nat × Nat) (x1:Int) (x2:Int) (x3:Int) (σ:Aa):fn P (XK Kn.b) H k 3 [.agg #[.int .u8 x0_0,.int .u8 x0_1,.slice x0_2.1 x0_2.2.1 x0_2.2.2,.slice x0_3.1 x0_3.2.1 x0_3.2.2,.slice x0_4.1 x0_4.2.1 x0_4.2.2,.slice x0_5.1 x0_5.2.1 x0_5.2.2,.slice x0_6.1 x0_6.2.1 x0_6.2.2],.int .u8 x1,.int .u8 x2,.int .u8 x3] σ=Ju k x0_0 x0_1 x0_2 x0_3 x0_4 x0_5 x0_6 x1 x2 x3 σ:=by
 simp only[Ju,Ab]
theorem TH (k:Nat) (x0:Value) (c0:Option Addr) (σ:Aa):PA k (.func (.func 244) #[] #[.pointer c0]) [x0] σ=D0 k x0 c0 σ:=by
 simp only[PA,D0,Ab]; kernel_rfl
theorem aF (k:Nat) (x0:Int) (c0:Option Addr) (σ:Aa):F6 k (.func (.func 166) #[] #[.pointer c0]) [.int .i64 x0] σ=Ex k x0 c0 σ:=by
 simp only[F6,Ex,Ab]; kernel_rfl
theorem SJ (k:Nat) (x0:Int) (c0:Option Addr) (σ:Aa):F6 k (.func (.func 288) #[] #[.pointer c0]) [.int .i64 x0] σ=C8 k x0 c0 σ:=by
 simp only[F6,C8,Ab]; kernel_rfl
theorem SK (k:Nat) (x0_0:Int) (x0_1:Int) (σ:Aa):Js k (.func (.func 285) #[] #[]) [.agg #[.int .i64 x0_0,.int .i64 x0_1]] σ=CV k x0_0 x0_1 σ:=by
 simp only[Js,CV,Ab]; kernel_rfl
theorem Jr (k:Nat) (h:Nat) (qh0:Nat) (z0_0:Int) (z0_1:Int) (z0_2:Int) (z1:Option Addr) (σ:Aa) (hσ:σ[h]?=some (.loop 168 .ready (Lg 0 26 [(3,.pointer (some ⟨qh0,0,none⟩))]))):GY (k+1) (.func (.yield h) #[] #[]) [.agg #[.int .i64 z0_0,.int .i64 z0_1,.int .i64 z0_2],.pointer z1] σ=EZ k (Bk k) h qh0 z0_0 z0_1 z0_2 z1 σ:=by
 simp only[GY,Bk,Ab,EZ,sw,Ad,Af,Ae]
 exact (Ae2 (F:=Tryz.f168) (c:=BM Tryz.f168) (x:=(CH (BM Tryz.f168)).getD default) hσ (by kernel_rfl) (by kernel_rfl) (by kernel_rfl) (by kernel_rfl) (by kernel_rfl) (by kernel_rfl)).trans (by kernel_rfl)
end
end Go.Proofs.YtjbledomkmdkmaaGreat
