/-
 PRINTED BY A PROGRAM OF THIS SESSION'S OWN (gen2.py): the unfolding equations.
-/
import Derived.Test.YtjbledomkmdkmaaGreatP12
set_option linter.unusedVariables false
set_option linter.unusedSimpArgs false
set_option linter.unusedSectionVars false
namespace Go.Proofs.YtjbledomkmdkmaaGreat
open Go Go.AX
noncomputable section
set_option maxRecDepth 100000
section
variable [AA]
theorem Ta (k:Nat) (x0:Option Addr) (x1:Int) (J:Aa):FH (k+1) x0 x1 J =
 (HS k x0 x1 true J).bind fun r1=>(Bn .i64 r1.1).bind fun n2=>some (.int .i64 n2,r1.2):=by
 simp only[FH,HS,Ac]; kernel_rfl
theorem Ua (k:Nat) (x0:Option Addr) (x1:Int) (J:Aa):Ha (k+1) x0 x1 J =
 (IG k x0 x1 (1:Int) J).bind fun r1=>(Bn .i64 r1.1).bind fun n2=>some (.int .i64 n2,r1.2):=by
 simp only[Ha,IG,Ac]; kernel_rfl
theorem bZ (k:Nat) (x0:Option Addr) (x1:Option Addr) (x2:Bool) (x3:Int) (J:Aa):LO (k+1) x0 x1 x2 x3 J =
 (Ax k x0 J).bind fun r1=>(Bn .i64 r1.1).bind fun n2=>(bif decide (n2<=0) then some (true,r1.2) else (BV k x1 r1.2).bind fun r3=>(Bn .i64 r3.1).bind fun n4=>some (n4 == 0,r3.2)).bind fun r5=>bif r5.1 then (some (.tuple #[.pointer none,.int .i64 1],r5.2)) else (Ae r5.2 (.cells [.pointer x0,.pointer x1,.bool x2,.int .i64 x3,.int .i64 0,.pointer none,.slice none 0 0,.slice none 0 0,.int .i64 0] GD true) fun h6 s7=>(Ax k x0 s7).bind fun r8=>(Bn .i64 r8.1).bind fun n9=>if (2:Int)=0 then none else (Iy k (Ar ((Ar (n9*64)).tdiv (2:Int))) (2:Int) r8.2).bind fun r10=>Ra r10.1 fun p11 n12=>(CT r10.2 h6 (0+5) (.pointer p11)).bind fun s13=>some (.tuple #[.pointer (some ⟨h6,0,none⟩),.int .i64 0],s13)):=by
 simp only[Ax,BV,Iy,LO,Ac]; kernel_rfl
theorem Ui (k:Nat) (x0:Option Addr) (J:Aa):AE (k+1) x0 J =
 (J9 P Ol (.pointer x0) (.pointer none)).bind fun e1=>(bif !e1 then x0.bind fun a2=>(BR J a2.block (a2.off+0)).bind fun p3=>(J9 P E7 (.pointer p3) (.pointer none)).bind fun e4=>some (!e4,J) else some (false,J)).bind fun r5=>some (.bool r5.1,r5.2):=by
 simp only[AE,Ac]; kernel_rfl
theorem KN (k n:Nat) (p0:Option Addr) (p1:Option Addr) (c2:Nat) (c3:Nat) (i4:Int) (x10:Int) (J:Aa):EU k (n+1) p0 p1 c2 c3 i4 x10 J =
 bif decide (x10<i4) then (if 0<=x10/\x10<c2 then p1.bind fun a5=>(Ak .i64 J a5.block (a5.off+x10.toNat*1)).bind fun n6=>(BG k p0 n6 J).bind fun r7=>Vz r7.1 (EU k n p0 p1 c2 c3 i4 (Ar (x10+1)) r7.2) else none) else (some (.exit 0,[],J)):=by
 simp only[BG,EU,Ac]; kernel_rfl
theorem RH (k:Nat) (x0:Option Addr) (J:Aa):En (k+1) x0 J =
 x0.bind fun a1=>(BR J a1.block (a1.off+1)).bind fun p2=>(CJ k p2 J).bind fun r3=>(ED r3.1).bind fun l4=>(EU k k x0 l4.1 l4.2.1 l4.2.2 ((l4.2.1:Nat):Int) (0:Int) r3.2).bind fun r8=>if r8.1 = .exit 0 then (some (.tuple #[],r8.2.2)) else none:=by
 simp only[CJ,En,EU,Ac]; kernel_rfl
theorem LF (k n:Nat) (p0:Option Addr) (p1:Option Addr) (c2:Nat) (c3:Nat) (i4:Int) (x50:Int) (J:Aa):FT k (n+1) p0 p1 c2 c3 i4 x50 J =
 bif decide (x50<i4) then (if 0<=x50/\x50<c2 then p1.bind fun a25=>(Ak .i64 J a25.block (a25.off+x50.toNat*1)).bind fun n26=>(BG k p0 n26 J).bind fun r27=>Vz r27.1 (FT k n p0 p1 c2 c3 i4 (Ar (x50+1)) r27.2) else none) else (some (.exit 1,[],J)):=by
 simp only[BG,FT,Ac]; kernel_rfl
theorem Kz (k:Nat) (x0:Option Addr) (J:Aa):DJ (k+1) x0 J =
 x0.bind fun a1=>(Ak .i64 J a1.block (a1.off+4)).bind fun n2=>(bif n2 == 2 then ((Ic k x0 J).bind fun r3=>Vz r3.1 (some (.normal,[],r3.2))) else (x0.bind fun a4=>(AR J a4.block (a4.off+6)).bind fun l5=>(bif decide (((l5.2.1:Nat):Int)>(0:Int)) then (x0.bind fun a6=>(AR J a6.block (a6.off+6)).bind fun l7=>if 0<=(0:Int)/\(0:Int)<(l7.2.1:Nat) then l7.1.bind fun a8=>(Ak .i64 J a8.block (a8.off+(0:Int).toNat*1)).bind fun n9=>x0.bind fun a10=>(AR J a10.block (a10.off+6)).bind fun l11=>(F8 Aj 1 (l11.1,l11.2.1,l11.2.2) (some (.int .i64 1)) none none J).bind fun l12=>(Bw k (l12.1,l12.2.1,l12.2.2) J).bind fun r13=>(ED r13.1).bind fun l14=>x0.bind fun a15=>(CT r13.2 a15.block (a15.off+6) (.slice l14.1 l14.2.1 l14.2.2)).bind fun s16=>x0.bind fun a17=>(BR s16 a17.block (a17.off+0)).bind fun p18=>(AQ k p18 n9 s16).bind fun r19=>(DK r19.1).bind fun b20=>(bif b20 then (x0.bind fun a21=>(BR r19.2 a21.block (a21.off+0)).bind fun p22=>(HQ k p22 n9 r19.2).bind fun r23=>(ED r23.1).bind fun l24=>(FT k k x0 l24.1 l24.2.1 l24.2.2 ((l24.2.1:Nat):Int) (0:Int) r23.2).bind fun r28=>if r28.1 = .exit 1 then ((C0 k x0 n9 (2:Int) r28.2.2).bind fun r29=>Vz r29.1 (some (.normal,[],r29.2))) else none) else (some (.normal,[],r19.2)):Option Bl).bind fun r30=>if r30.1 = .normal then (some (.normal,[],r30.2.2)) else none else none) else ((Hj k x0 J).bind fun r31=>Vz r31.1 (some (.normal,[],r31.2))):Option Bl).bind fun r32=>if r32.1 = .normal then (some (.normal,[],r32.2.2)) else none):Option Bl).bind fun r33=>if r33.1 = .normal then (some (.tuple #[],r33.2.2)) else none:=by
 simp only[AQ,HQ,Bw,Hj,C0,Ic,DJ,FT,Ac]; kernel_rfl
theorem QZ (k:Nat) (x0:Option Addr × Nat × Nat) (J:Aa):Bw (k+1) x0 J =
 (J9 P Gt (.slice x0.1 x0.2.1 x0.2.2) (.slice none 0 0)).bind fun e1=>bif e1 then (some (.slice none 0 0,J)) else (Ae J (.cells [] Aj true) fun h2 s3=>(AF P Aj (some ⟨h2,0,some 0⟩,0,0) (x0.1,x0.2.1,x0.2.2) s3).bind fun r4=>some (.slice r4.1.1 r4.1.2.1 r4.1.2.2,r4.2)):=by
 simp only[Bw,Ac]; kernel_rfl
theorem TZ (k:Nat) (x0:Option Addr) (x1:Int) (J:Aa):AQ (k+1) x0 x1 J =
 (AJ k x0 J).bind fun r1=>(DK r1.1).bind fun b2=>(bif b2 then some (decide (x1>=0),r1.2) else some (false,r1.2)).bind fun r3=>(bif r3.1 then if (2:Int)=0 then none else some ((x1.tmod (2:Int)) == (0:Int),r3.2) else some (false,r3.2)).bind fun r4=>(bif r4.1 then x0.bind fun a5=>(BR r4.2 a5.block (a5.off+2)).bind fun p6=>if (2:Int)=0 then none else (Dp k p6 (Ar (x1.tdiv (2:Int))) r4.2).bind fun r7=>(Bn .i64 r7.1).bind fun n8=>some (n8 == 1,r7.2) else some (false,r4.2)).bind fun r9=>some (.bool r9.1,r9.2):=by
 simp only[AQ,AJ,Dp,Ac]; kernel_rfl
theorem Tg (k:Nat) (x0:Option Addr) (x1:Int) (J:Aa):Dp (k+1) x0 x1 J =
 (EC k x0 x1 J).bind fun r1=>(DK r1.1).bind fun b2=>bif !b2 then (some (.int .i64 (-1:Int),r1.2)) else ((DU k x0 x1 r1.2).bind fun r3=>(Bn .i64 r3.1).bind fun n4=>some (.int .i64 n4,r3.2)):=by
 simp only[Dp,DU,EC,Ac]; kernel_rfl
theorem QD (k:Nat) (x0:Option Addr) (x1:Int) (J:Aa):Bu (k+1) x0 x1 J =
 (AJ k x0 J).bind fun r1=>(DK r1.1).bind fun b2=>bif !b2 then (some (.int .i64 5,r1.2)) else ((AQ k x0 x1 r1.2).bind fun r3=>(DK r3.1).bind fun b4=>bif !b4 then (some (.int .i64 4,r3.2)) else (some (.int .i64 0,r3.2))):=by
 simp only[AQ,AJ,Bu,Ac]; kernel_rfl
theorem Xn (k:Nat) (x0:Int) (J:Aa):G2 (k+1) x0 J =
 Ae J (.cells [.int .i64 0,.int .i64 0,.int .i64 0] Ad true) fun h1 s2=>if (16:Int)=0 then none else if (4096:Int)=0 then none else if (16:Int)=0 then none else if (4096:Int)=0 then none else (H2 s2 h1 0 [.int .i64 (x0.tmod (16:Int)),.int .i64 (Ar ((x0.tmod (4096:Int)).tdiv (16:Int))),.int .i64 (Ar (x0.tdiv (4096:Int)))]).bind fun s3=>(((M9 s3 h1 0 3).bind fun v4=>some (.agg v4.toArray)).bind fun v5=>some [v5]).bind fun vs6=>some (KR vs6,s3):=by
 simp only[G2,Ac]; kernel_rfl
theorem Rr (k:Nat) (x0:Option Addr) (x1:Int) (x2:Int) (x3:Bool) (J:Aa):Dx (k+1) x0 x1 x2 x3 J =
 (Bu k x0 x1 J).bind fun r1=>(Bn .i64 r1.1).bind fun n2=>bif n2 != 0 then (some (.tuple #[.int .i64 0,.int .i64 n2],r1.2)) else (x0.bind fun a3=>(AR r1.2 a3.block (a3.off+1)).bind fun l4=>if 0<=(Ar (x1+1))/\(Ar (x1+1))<(l4.2.1:Nat) then l4.1.bind fun a5=>(Ak .i64 r1.2 a5.block (a5.off+(Ar (x1+1)).toNat*1)).bind fun n6=>(G2 k n6 r1.2).bind fun r7=>Ni r7.1 fun n8 n9 n10=>Ae r7.2 (.cells [.int .i64 0,.int .i64 0,.int .i64 0] Ad true) fun h11 s12=>(H2 s12 h11 0 [.int .i64 n8,.int .i64 n9,.int .i64 n10]).bind fun s13=>(Ak .i64 s13 h11 (0+0)).bind fun n14=>(bif x3 then ((Ak .i64 s13 h11 (0+0)).bind fun n15=>(Ak .i64 s13 h11 (0+1)).bind fun n16=>some (.normal,[.int .i64 (Ar ((Ar (x1+2))+n15)),.int .i64 n16],s13)) else (some (.normal,[.int .i64 (Ar (x1+2)),.int .i64 n14],s13)):Option Bl).bind fun r17=>if r17.1 = .normal then (gF r17.2.1 fun n18 n19=>(bif decide (x2<0) then some (true,r17.2.2) else some (decide (x2>=n19),r17.2.2)).bind fun r20=>bif r20.1 then (some (.tuple #[.int .i64 0,.int .i64 1],r20.2)) else (some (.tuple #[.int .i64 (Ar (n18+x2)),.int .i64 0],r20.2))) else none else none):=by
 simp only[Dx,Bu,G2,Ac]; kernel_rfl
theorem T8 (k:Nat) (x0:Int) (x1:Int) (J:Aa):Iy (k+1) x0 x1 J =
 (bif decide (x0<1) then some (true,J) else some (decide (x0>4096),J)).bind fun r1=>(bif r1.1 then some (true,r1.2) else Ae r1.2 (.cells [.int .i64 1,.int .i64 2,.int .i64 4,.int .i64 8] Aj true) fun h2 s3=>(Co k (some ⟨h2,0,none⟩,4,4) x1 s3).bind fun r4=>(DK r4.1).bind fun b5=>some (!b5,r4.2)).bind fun r6=>bif r6.1 then (some (.tuple #[.pointer none,.int .i64 1],r6.2)) else (if (64:Int)=0 then none else if 0<=(Ar ((Ar ((Ar ((Ar (x0*x1))+(64:Int)))-(1:Int))).tdiv (64:Int)))/\(Ar ((Ar ((Ar ((Ar (x0*x1))+(64:Int)))-(1:Int))).tdiv (64:Int)))<=(Ar ((Ar ((Ar ((Ar (x0*x1))+(64:Int)))-(1:Int))).tdiv (64:Int)))/\(Ar ((Ar ((Ar ((Ar (x0*x1))+(64:Int)))-(1:Int))).tdiv (64:Int)))*(8:Nat)<=2 ^ 40/\(Ar ((Ar ((Ar ((Ar (x0*x1))+(64:Int)))-(1:Int))).tdiv (64:Int)))<=2 ^ 40 then Ae r6.2 (.cells (rep (Ar ((Ar ((Ar ((Ar (x0*x1))+(64:Int)))-(1:Int))).tdiv (64:Int))).toNat [.int .u64 0]) nH true) fun h7 s8=>Ae s8 (.cells [.int .i64 x0,.int .i64 x1,.slice (some ⟨h7,0,none⟩) ((Ar ((Ar ((Ar ((Ar (x0*x1))+(64:Int)))-(1:Int))).tdiv (64:Int))).toNat) ((Ar ((Ar ((Ar ((Ar (x0*x1))+(64:Int)))-(1:Int))).tdiv (64:Int))).toNat)] Mf true) fun h9 s10=>some (.tuple #[.pointer (some ⟨h9,0,none⟩),.int .i64 0],s10) else none):=by
 simp only[Iy,Co,Ac]; kernel_rfl
theorem Tk (k:Nat) (x0:Option Addr) (x1_0:Int) (x1_1:Int) (x1_2:Int) (x2:Int) (J:Aa):HY (k+1) x0 x1_0 x1_1 x1_2 x2 J =
 Ae J (.cells [.int .i64 x1_0,.int .i64 x1_1,.int .i64 x1_2] Ad true) fun h1 s2=>(AE k x0 s2).bind fun r3=>(DK r3.1).bind fun b4=>bif !b4 then (some (.tuple #[.int .i64 0,.int .i64 5],r3.2)) else ((Ak .i64 r3.2 h1 0).bind fun n5=>(Ak .i64 r3.2 h1 (0+1)).bind fun n6=>(Ak .i64 r3.2 h1 (0+1+1)).bind fun n7=>(Ex k n5 n6 n7 r3.2).bind fun r8=>(DK r8.1).bind fun b9=>bif !b9 then (some (.tuple #[.int .i64 0,.int .i64 2],r8.2)) else (x0.bind fun a10=>(BR r8.2 a10.block (a10.off+0)).bind fun p11=>(K8 k p11 x2 (0:Int) r8.2).bind fun r12=>Ra r12.1 fun p13 n14=>bif n14 != 0 then (some (.tuple #[.int .i64 0,.int .i64 n14],r12.2)) else ((Ak .i64 r12.2 h1 0).bind fun n15=>(Ak .i64 r12.2 h1 (0+1)).bind fun n16=>(Ak .i64 r12.2 h1 (0+1+1)).bind fun n17=>(CL k p13 n15 n16 n17 r12.2).bind fun r18=>I8 r18.1 fun n19 n20=>(bif n20 == 0 then (x0.bind fun a21=>(Ak .i64 r18.2 a21.block (a21.off+3)).bind fun n22=>x0.bind fun a23=>(Ak .i64 r18.2 a23.block (a23.off+4)).bind fun n24=>if 0<=n24/\n24<(3:Nat) then (([.int .i64 0,.int .i64 n22,.int .i64 2]:List Value)[n24.toNat*1]?).bind fun v25=>(Bn .i64 v25).bind fun n26=>(C0 k x0 n19 n26 r18.2).bind fun r27=>Vz r27.1 (some (.normal,[],r27.2)) else none) else (some (.normal,[],r18.2)):Option Bl).bind fun r28=>if r28.1 = .normal then (some (.tuple #[.int .i64 n19,.int .i64 n20],r28.2.2)) else none))):=by
 simp only[CL,K8,Ex,HY,AE,C0,Ac]; kernel_rfl
theorem UR (k:Nat) (x0:Option Addr) (x1:Int) (x2:Int) (J:Aa):HZ (k+1) x0 x1 x2 J =
 (AE k x0 J).bind fun r1=>(DK r1.1).bind fun b2=>bif !b2 then (some (.tuple #[.int .i64 0,.int .i64 5],r1.2)) else (x0.bind fun a3=>(BR r1.2 a3.block (a3.off+0)).bind fun p4=>(AG k p4 x1 x2 r1.2).bind fun r5=>I8 r5.1 fun n6 n7=>some (.tuple #[.int .i64 n6,.int .i64 n7],r5.2)):=by
 simp only[AG,AE,HZ,Ac]; kernel_rfl
theorem Ug (k:Nat) (x0:Option Addr) (J:Aa):Dg (k+1) x0 J =
 x0.bind fun a1=>(BR J a1.block (a1.off+0)).bind fun p2=>some (.pointer p2,J):=by
 simp only[Dg,Ac]; kernel_rfl
theorem QC (k:Nat) (x0:Option Addr) (x1:Int) (x2:Int) (x3:Int) (J:Aa):CC (k+1) x0 x1 x2 x3 J =
 (Dx k x0 x1 x2 false J).bind fun r1=>I8 r1.1 fun n2 n3=>bif n3 != 0 then (some (.int .i64 n3,r1.2)) else ((bif x3 != 0 then (AQ k x0 x3 r1.2).bind fun r4=>(DK r4.1).bind fun b5=>some (!b5,r4.2) else some (false,r1.2)).bind fun r6=>bif r6.1 then (some (.int .i64 1,r6.2)) else (x0.bind fun a7=>(AR r6.2 a7.block (a7.off+1)).bind fun l8=>if 0<=n2/\n2<(l8.2.1:Nat) then l8.1.bind fun a9=>(CT r6.2 a9.block (a9.off+n2.toNat*1) (.int .i64 x3)).bind fun s10=>some (.int .i64 0,s10) else none)):=by
 simp only[AQ,CC,Dx,Ac]; kernel_rfl
theorem L6 (k:Nat) (x0:Option Addr) (x1:Int) (x2:Int) (x3:Int) (J:Aa):Df (k+1) x0 x1 x2 x3 J =
 x0.bind fun a1=>(BR J a1.block (a1.off+0)).bind fun p2=>(Em k p2 x3 J).bind fun r3=>Vz r3.1 ((bif x2 == 0 then x0.bind fun a4=>(BR r3.2 a4.block (a4.off+0)).bind fun p5=>(Dg k p5 r3.2).bind fun r6=>(HD r6.1).bind fun p7=>(G4 k p7 x1 r6.2).bind fun r8=>(Bn .i64 r8.1).bind fun n9=>some (n9 == 2,r8.2) else some (false,r3.2)).bind fun r10=>(bif r10.1 then (x0.bind fun a11=>(BR r10.2 a11.block (a11.off+0)).bind fun p12=>(Dg k p12 r10.2).bind fun r13=>(HD r13.1).bind fun p14=>(AG k p14 x1 (1:Int) r13.2).bind fun r15=>I8 r15.1 fun n16 n17=>x0.bind fun a18=>(BR r15.2 a18.block (a18.off+0)).bind fun p19=>(Em k p19 n16 r15.2).bind fun r20=>Vz r20.1 (some (.normal,[],r20.2))) else (some (.normal,[],r10.2)):Option Bl).bind fun r21=>if r21.1 = .normal then (some (.tuple #[],r21.2.2)) else none):=by
 simp only[AG,G4,Df,Dg,Em,Ac]; kernel_rfl
theorem RE (k:Nat) (x0:Option Addr) (x1:Int) (J:Aa):Hy (k+1) x0 x1 J =
 (AE k x0 J).bind fun r1=>(DK r1.1).bind fun b2=>(bif !b2 then some (true,r1.2) else x0.bind fun a3=>(BR r1.2 a3.block (a3.off+0)).bind fun p4=>(AQ k p4 x1 r1.2).bind fun r5=>(DK r5.1).bind fun b6=>some (!b6,r5.2)).bind fun r7=>bif r7.1 then (some (.int .i64 (-1:Int),r7.2)) else ((Cu k x0 x1 r7.2).bind fun r8=>(Bn .i64 r8.1).bind fun n9=>some (.int .i64 n9,r8.2)):=by
 simp only[AQ,Hy,AE,Cu,Ac]; kernel_rfl
theorem Uf (k:Nat) (x0:Option Addr) (x1:Option Addr × Nat × Nat) (x2:Int) (J:Aa):De (k+1) x0 x1 x2 J =
 (EM k x0 x2 J).bind fun r1=>(DK r1.1).bind fun b2=>bif !b2 then (some (.slice x1.1 x1.2.1 x1.2.2,r1.2)) else ((KI k (x1.1,x1.2.1,x1.2.2) x2 r1.2).bind fun r3=>(ED r3.1).bind fun l4=>some (.slice l4.1 l4.2.1 l4.2.2,r3.2)):=by
 simp only[EM,De,KI,Ac]; kernel_rfl
theorem UQ (k:Nat) (x0_0:Int) (x0_1:Int) (x0_2:Int) (x1:Int) (J:Aa):HU (k+1) x0_0 x0_1 x0_2 x1 J =
 Ae J (.cells [.int .i64 x0_0,.int .i64 x0_1,.int .i64 x0_2] Ad true) fun h1 s2=>(Ak .i64 s2 h1 (0+2)).bind fun n3=>(bif n3 != 1 then (Ak .i64 s2 h1 (0+2)).bind fun n4=>some (n4 != 2,s2) else some (false,s2)).bind fun r5=>(bif r5.1 then some (true,r5.2) else (bif decide (x1>0) then (Ak .i64 r5.2 h1 (0+2)).bind fun n6=>(bif n6 == 1 then some (true,r5.2) else some (decide (x1>1),r5.2)).bind fun r7=>some (r7.1,r7.2) else some (false,r5.2)).bind fun r8=>some (r8.1,r8.2)).bind fun r9=>some (.bool r9.1,r9.2):=by
 simp only[HU,Ac]; kernel_rfl
theorem R4 (k:Nat) (x0:Option Addr) (x1_0:Int) (x1_1:Int) (x1_2:Int) (J:Aa):Ff (k+1) x0 x1_0 x1_1 x1_2 J =
 Ae J (.cells [.int .i64 x1_0,.int .i64 x1_1,.int .i64 x1_2] Am true) fun h1 s2=>(Ak .i64 s2 h1 (0+0)).bind fun n3=>bif n3 == 0 then (x0.bind fun a4=>(AR s2 a4.block (a4.off+0)).bind fun l5=>(Ak .i64 s2 h1 (0+1)).bind fun n6=>if 0<=n6/\n6<(l5.2.1:Nat) then l5.1.bind fun a7=>(AR s2 a7.block (a7.off+n6.toNat*1)).bind fun l8=>(Ak .i64 s2 h1 (0+2)).bind fun n9=>if 0<=n9/\n9<(l8.2.1:Nat) then l8.1.bind fun a10=>(Ak .i64 s2 a10.block (a10.off+n9.toNat*1)).bind fun n11=>some (.int .i64 n11,s2) else none else none) else (bif n3 == 1 then (x0.bind fun a12=>(AR s2 a12.block (a12.off+1)).bind fun l13=>(Ak .i64 s2 h1 (0+2)).bind fun n14=>if 0<=n14/\n14<(l13.2.1:Nat) then l13.1.bind fun a15=>(Ak .i64 s2 a15.block (a15.off+n14.toNat*1)).bind fun n16=>some (.int .i64 n16,s2) else none) else (x0.bind fun a17=>(AR s2 a17.block (a17.off+2)).bind fun l18=>(Ak .i64 s2 h1 (0+2)).bind fun n19=>if 0<=n19/\n19<(l18.2.1:Nat) then l18.1.bind fun a20=>(Ak .i64 s2 a20.block (a20.off+n19.toNat*1)).bind fun n21=>some (.int .i64 n21,s2) else none)):=by
 simp only[Ff,Ac]; kernel_rfl
theorem QV (k:Nat) (x0:Option Addr) (J:Aa):AV (k+1) x0 J =
 (J9 P Fk (.pointer x0) (.pointer none)).bind fun e1=>(bif !e1 then x0.bind fun a2=>(Ak .i64 J a2.block (a2.off+0)).bind fun n3=>some (decide (n3>0),J) else some (false,J)).bind fun r4=>some (.bool r4.1,r4.2):=by
 simp only[AV,Ac]; kernel_rfl
theorem Tf (k:Nat) (x0:Option Addr) (x1_0:Int) (x1_1:Int) (x1_2:Int) (J:Aa):HX (k+1) x0 x1_0 x1_1 x1_2 J =
 Ae J (.cells [.int .i64 x1_0,.int .i64 x1_1,.int .i64 x1_2] Am true) fun h1 s2=>(Ak .i64 s2 h1 (0+0)).bind fun n3=>(bif n3 == 0 then (Ak .i64 s2 h1 (0+1)).bind fun n4=>some (decide (n4>=0),s2) else some (false,s2)).bind fun r5=>(bif r5.1 then (Ak .i64 r5.2 h1 (0+1)).bind fun n6=>x0.bind fun a7=>(Ak .i64 r5.2 a7.block (a7.off+0)).bind fun n8=>some (decide (n6<n8),r5.2) else some (false,r5.2)).bind fun r9=>bif r9.1 then (x0.bind fun a10=>(AR r9.2 a10.block (a10.off+1)).bind fun l11=>(Ak .i64 r9.2 h1 (0+1)).bind fun n12=>(Ak .i64 r9.2 h1 (0+1)).bind fun n13=>(F8 Aj 1 (l11.1,l11.2.1,l11.2.2) (some (.int .i64 (Ar (n12*16)))) (some (.int .i64 (Ar ((Ar (n13+1))*(16:Int))))) none r9.2).bind fun l14=>(Ed k (l14.1,l14.2.1,l14.2.2) (some ⟨h1,0,none⟩) r9.2).bind fun r15=>(HD r15.1).bind fun p16=>some (.pointer p16,r15.2)) else ((Ak .i64 r9.2 h1 (0+0)).bind fun n17=>(bif n17 == 1 then (Ak .i64 r9.2 h1 (0+1)).bind fun n18=>some (n18 == 0,r9.2) else some (false,r9.2)).bind fun r19=>bif r19.1 then (x0.bind fun a20=>(AR r19.2 a20.block (a20.off+2)).bind fun l21=>(Ed k (l21.1,l21.2.1,l21.2.2) (some ⟨h1,0,none⟩) r19.2).bind fun r22=>(HD r22.1).bind fun p23=>some (.pointer p23,r22.2)) else ((Ak .i64 r19.2 h1 (0+0)).bind fun n24=>(bif n24 == 2 then (Ak .i64 r19.2 h1 (0+1)).bind fun n25=>some (n25 == 0,r19.2) else some (false,r19.2)).bind fun r26=>bif r26.1 then (x0.bind fun a27=>(AR r26.2 a27.block (a27.off+3)).bind fun l28=>(Ed k (l28.1,l28.2.1,l28.2.2) (some ⟨h1,0,none⟩) r26.2).bind fun r29=>(HD r29.1).bind fun p30=>some (.pointer p30,r29.2)) else (some (.pointer none,r26.2)))):=by
 simp only[HX,Ed,Ac]; kernel_rfl
theorem QS (k:Nat) (x0:Option Addr) (J:Aa):Bo (k+1) x0 J =
 (J9 P G8 (.pointer x0) (.pointer none)).bind fun e1=>(bif !e1 then x0.bind fun a2=>(AR J a2.block (a2.off+0)).bind fun l3=>some (decide (((l3.2.1:Nat):Int)>(0:Int)),J) else some (false,J)).bind fun r4=>some (.bool r4.1,r4.2):=by
 simp only[Bo,Ac]; kernel_rfl
theorem R1 (k:Nat) (x0:Option Addr) (J:Aa):AL (k+1) x0 J =
 (J9 P Jh (.pointer x0) (.pointer none)).bind fun e1=>(bif !e1 then x0.bind fun a2=>(AR J a2.block (a2.off+0)).bind fun l3=>some (decide (((l3.2.1:Nat):Int)>(0:Int)),J) else some (false,J)).bind fun r4=>some (.bool r4.1,r4.2):=by
 simp only[AL,Ac]; kernel_rfl
theorem Xt (k:Nat) (x0:Int) (x1:Int) (J:Aa):Hn (k+1) x0 x1 J =
 (bif x1 == 0 then (bif x0 == 1 then some (true,J) else some (x0 == 2,J)).bind fun r1=>some (r1.1,r1.2) else some (false,J)).bind fun r2=>(bif r2.1 then some (true,r2.2) else (bif x1 == 1 then some (x0 == 2,r2.2) else some (false,r2.2)).bind fun r3=>some (r3.1,r3.2)).bind fun r4=>some (.bool r4.1,r4.2):=by
 simp only[Hn,Ac]; kernel_rfl
theorem Xr (k:Nat) (x0:Option Addr) (x1:Int) (J:Aa):G4 (k+1) x0 x1 J =
 (AN k x0 x1 J).bind fun r1=>(bH r1.1).bind fun q2=>if q2.length=2 then q2.head?.bind fun v3=>Ni v3 fun n4 n5 n6=>q2.tail.head?.bind fun v7=>(Bn .i64 v7).bind fun n8=>Ae r1.2 (.cells [.int .i64 0,.int .i64 0,.int .i64 0] Ad true) fun h9 s10=>(H2 s10 h9 0 [.int .i64 n4,.int .i64 n5,.int .i64 n6]).bind fun s11=>(Ak .i64 s11 h9 (0+2)).bind fun n12=>some (.int .i64 n12,s11) else none:=by
 simp only[AN,G4,Ac]; kernel_rfl
theorem RF (k:Nat) (x0:Option Addr) (x1:Int) (J:Aa):Em (k+1) x0 x1 J =
 x0.bind fun a1=>(Ak .i64 J a1.block (a1.off+4)).bind fun n2=>(bif n2 == 1 then ((BG k x0 x1 J).bind fun r3=>Vz r3.1 (some (.normal,[],r3.2))) else (some (.normal,[],J)):Option Bl).bind fun r4=>if r4.1 = .normal then (some (.tuple #[],r4.2.2)) else none:=by
 simp only[BG,Em,Ac]; kernel_rfl
theorem OZ (k n:Nat) (p0:Option Addr) (i1:Int) (x8:Int) (J:Aa):ES k (n+1) p0 i1 x8 J =
 p0.bind fun a3=>(Ak .i64 J a3.block (a3.off+0)).bind fun n4=>bif decide (x8<n4) then ((DU k p0 x8 J).bind fun r5=>(Bn .i64 r5.1).bind fun n6=>bif n6 == i1 then (some (.ret,[.int .i64 x8,.int .i64 0],r5.2)) else (ES k n p0 i1 (Ar (x8+1)) r5.2)) else (some (.exit 0,[],J)):=by
 simp only[ES,DU,Ac]; kernel_rfl
theorem RB (k:Nat) (x0:Option Addr) (x1:Int) (x2:Int) (J:Aa):Dz (k+1) x0 x1 x2 J =
 (BB k x0 J).bind fun r1=>(DK r1.1).bind fun b2=>bif !b2 then (some (.tuple #[.int .i64 0,.int .i64 5],r1.2)) else ((ES k k x0 x2 (if (0:Int)>x1 then (0:Int) else x1) r1.2).bind fun r7=>if r7.1 = .exit 0 then (some (.tuple #[.int .i64 0,.int .i64 4],r7.2.2)) else if r7.1 = .ret then (gF r7.2.1 fun n8 n9=>some (.tuple #[.int .i64 n8,.int .i64 n9],r7.2.2)) else none):=by
 simp only[Dz,ES,BB,Ac]; kernel_rfl
theorem VR (k:Nat) (x0:Int) (c0:Option Addr) (J:Aa):GC (k+1) x0 c0 J =
 (bif x0 != 0 then c0.bind fun a1=>(BR J a1.block a1.off).bind fun p2=>(AQ k p2 x0 J).bind fun r3=>(DK r3.1).bind fun b4=>some (!b4,r3.2) else some (false,J)).bind fun r5=>some (.bool r5.1,r5.2):=by
 simp only[AQ,GC,Ac]; kernel_rfl
theorem II (k:Nat) (x0:Option Addr × Nat × Nat) (x1:Value) (J:Aa):Cy (k+1) x0 x1 J =
 (G6 k (x0.1,x0.2.1,x0.2.2) (x1) J).bind fun r1=>(Bn .i64 r1.1).bind fun n2=>some (.bool (decide (n2>=0)),r1.2):=by
 simp only[Cy,G6,Ac]; kernel_rfl
theorem PX (k:Nat) (x0:Option Addr) (J:Aa):CJ (k+1) x0 J =
 (AV k x0 J).bind fun r1=>(DK r1.1).bind fun b2=>bif !b2 then (some (.slice none 0 0,r1.2)) else (Ae r1.2 (.cells [.slice none 0 0] Gt true) fun h3 s4=>(Gq k x0 s4).bind fun r5=>bif fc r5.1 then (Ae r5.2 (.loop 168 .ready (GU 0 26 [(3,.pointer (some ⟨h3,0,none⟩))])) fun h6 s7=>(K9 k r5.1 [.func (.yield h6) #[] #[]] s7).bind fun r8=>N1 h6 r8.2 fun x9 s10=>if x9 = .normal then ((AR s10 h3 0).bind fun l11=>some (.slice l11.1 l11.2.1 l11.2.2,s10)) else none) else none):=by
 simp only[K9,CJ,Gq,AV,Ac]; kernel_rfl
theorem Lf (k:Nat) (x0:Option Addr) (x1:Int) (J:Aa):BQ (k+1) x0 x1 J =
 (AJ k x0 J).bind fun r1=>(DK r1.1).bind fun b2=>(bif !b2 then some (true,r1.2) else some (decide (x1<0),r1.2)).bind fun r3=>(bif r3.1 then some (true,r3.2) else x0.bind fun a4=>(AR r3.2 a4.block (a4.off+0)).bind fun l5=>some (decide (x1>=((l5.2.1:Nat):Int)),r3.2)).bind fun r6=>bif r6.1 then (some (.slice none 0 0,r6.2)) else ((DZ k x0 (Ar (x1*64)) (Ar ((Ar (x1+1))*(64:Int))) r6.2).bind fun r7=>(ED r7.1).bind fun l8=>some (.slice l8.1 l8.2.1 l8.2.2,r7.2)):=by
 simp only[BQ,DZ,AJ,Ac]; kernel_rfl
theorem Xm (k:Nat) (x0_0:Int) (x0_1:Int) (x0_2:Int) (J:Aa):G1 (k+1) x0_0 x0_1 x0_2 J =
 Ae J (.cells [.int .i64 x0_0,.int .i64 x0_1,.int .i64 x0_2] Ad true) fun h1 s2=>(Ak .i64 s2 h1 0).bind fun n3=>(Ak .i64 s2 h1 (0+1)).bind fun n4=>(Ak .i64 s2 h1 (0+1+1)).bind fun n5=>(Ex k n3 n4 n5 s2).bind fun r6=>(DK r6.1).bind fun b7=>bif !b7 then (some (.int .i64 0,r6.2)) else ((Ak .i64 r6.2 h1 (0+0)).bind fun n8=>(Ak .i64 r6.2 h1 (0+1)).bind fun n9=>if (2:Int)=0 then none else some (.int .i64 (Ar ((Ar ((Ar ((Ar ((Ar ((2:Int)+n8))+n9))+(1:Int))).tdiv (2:Int)))*(2:Int))),r6.2)):=by
 simp only[Ex,G1,Ac]; kernel_rfl
theorem JE (k n:Nat) (p0:Option Addr) (i1:Int) (x6:Int) (J:Aa):DM k (n+1) p0 i1 x6 J =
 bif decide (x6>0) then (p0.bind fun a7=>(AR J a7.block (a7.off+0)).bind fun l8=>if 0<=(Ar ((Ar (i1+x6))-(1:Int)))/\(Ar ((Ar (i1+x6))-(1:Int)))<(l8.2.1:Nat) then l8.1.bind fun a9=>(H2 J a9.block (a9.off+(Ar ((Ar (i1+x6))-(1:Int))).toNat*2) [.int .i64 0,.int .i64 0]).bind fun s10=>DM k n p0 i1 (Ar (x6-1)) s10 else none) else (some (.exit 0,[],J)):=by
 simp only[DM,Ac]; kernel_rfl
theorem PM (k:Nat) (x0:Option Addr) (x1:Int) (J:Aa):Fs (k+1) x0 x1 J =
 (HN k x0 x1 true J).bind fun r1=>(Bn .i64 r1.1).bind fun n2=>bif n2 != 0 then (some (.int .i64 n2,r1.2)) else ((BQ k x0 x1 r1.2).bind fun r3=>(ED r3.1).bind fun l4=>bif decide (((l4.2.1:Nat):Int)>(0:Int)) then (some (.int .i64 8,r3.2)) else ((FF k x0 x1 r3.2).bind fun r5=>(Bn .i64 r5.1).bind fun n6=>(DM k k x0 x1 n6 r5.2).bind fun r11=>if r11.1 = .exit 0 then (some (.int .i64 0,r11.2.2)) else none)):=by
 simp only[BQ,Fs,DM,HN,FF,Ac]; kernel_rfl
theorem SU (k:Nat) (x0:Option Addr) (x1:Int) (J:Aa):Dn (k+1) x0 x1 J =
 x0.bind fun a1=>(AR J a1.block (a1.off+1)).bind fun l2=>if 0<=(Ar (x1+1))/\(Ar (x1+1))<(l2.2.1:Nat) then l2.1.bind fun a3=>(Ak .i64 J a3.block (a3.off+(Ar (x1+1)).toNat*1)).bind fun n4=>(G2 k n4 J).bind fun r5=>Ni r5.1 fun n6 n7 n8=>(G1 k n6 n7 n8 r5.2).bind fun r9=>(Bn .i64 r9.1).bind fun n10=>some (.int .i64 n10,r9.2) else none:=by
 simp only[Dn,G1,G2,Ac]; kernel_rfl
theorem JG (k n:Nat) (i0:Int) (x3:Option Addr × Nat × Nat) (x5:Int) (J:Aa):DP k (n+1) i0 x3 x5 J =
 bif decide (x5<16) then (Ae J (.cells [.int .i64 0,.int .i64 i0,.int .i64 x5] Am true) fun h5 s6=>(AF P Am (x3.1,x3.2.1,x3.2.2) (some ⟨h5,0,none⟩,1,1) s6).bind fun r7=>DP k n i0 (r7.1.1,r7.1.2.1,r7.1.2.2) (Ar (x5+1)) r7.2) else (some (.exit 2,[.slice x3.1 x3.2.1 x3.2.2],J)):=by
 simp only[DP,Ac]; kernel_rfl
theorem JF (k n:Nat) (p0:Option Addr) (x3:Option Addr × Nat × Nat) (x4:Int) (J:Aa):DO k (n+1) p0 x3 x4 J =
 p0.bind fun a3=>(AR J a3.block (a3.off+0)).bind fun l4=>bif decide (x4<((l4.2.1:Nat):Int)) then ((DP k k x4 (x3.1,x3.2.1,x3.2.2) (0:Int) J).bind fun r8=>if r8.1 = .exit 2 then (Tu r8.2.1 fun l9=>DO k n p0 (l9.1,l9.2.1,l9.2.2) (Ar (x4+1)) r8.2.2) else none) else (some (.exit 0,[.slice x3.1 x3.2.1 x3.2.2],J)):=by
 simp only[DO,DP,Ac]; kernel_rfl
theorem JH (k n:Nat) (x3:Option Addr × Nat × Nat) (x6:Int) (J:Aa):DQ k (n+1) x3 x6 J =
 bif decide (x6<16) then (Ae J (.cells [.int .i64 1,.int .i64 0,.int .i64 x6] Am true) fun h12 s13=>(AF P Am (x3.1,x3.2.1,x3.2.2) (some ⟨h12,0,none⟩,1,1) s13).bind fun r14=>DQ k n  (r14.1.1,r14.1.2.1,r14.1.2.2) (Ar (x6+1)) r14.2) else (some (.exit 4,[.slice x3.1 x3.2.1 x3.2.2],J)):=by
 simp only[DQ,Ac]; kernel_rfl
theorem JI (k n:Nat) (p0:Option Addr) (x3:Option Addr × Nat × Nat) (x7:Int) (J:Aa):DR k (n+1) p0 x3 x7 J =
 p0.bind fun a17=>(AR J a17.block (a17.off+2)).bind fun l18=>bif decide (x7<((l18.2.1:Nat):Int)) then (Ae J (.cells [.int .i64 2,.int .i64 0,.int .i64 x7] Am true) fun h19 s20=>(AF P Am (x3.1,x3.2.1,x3.2.2) (some ⟨h19,0,none⟩,1,1) s20).bind fun r21=>DR k n p0 (r21.1.1,r21.1.2.1,r21.1.2.2) (Ar (x7+1)) r21.2) else (some (.exit 6,[.slice x3.1 x3.2.1 x3.2.2],J)):=by
 simp only[DR,Ac]; kernel_rfl
theorem PT (k:Nat) (x0:Option Addr) (J:Aa):Gy (k+1) x0 J =
 (Bo k x0 J).bind fun r1=>(DK r1.1).bind fun b2=>bif !b2 then (some (.slice none 0 0,r1.2)) else ((DO k k x0 (none,0,0) (0:Int) r1.2).bind fun r10=>if r10.1 = .exit 0 then (Tu r10.2.1 fun l11=>(DQ k k  (l11.1,l11.2.1,l11.2.2) (0:Int) r10.2.2).bind fun r15=>if r15.1 = .exit 4 then (Tu r15.2.1 fun l16=>(DR k k x0 (l16.1,l16.2.1,l16.2.2) (0:Int) r15.2.2).bind fun r22=>if r22.1 = .exit 6 then (Tu r22.2.1 fun l23=>some (.slice l23.1 l23.2.1 l23.2.2,r22.2.2)) else none) else none) else none):=by
 simp only[Gy,DO,DQ,DR,Bo,Ac]; kernel_rfl
theorem R5 (k:Nat) (x0:Option Addr) (x1_0:Int) (x1_1:Int) (x1_2:Int) (J:Aa):Hr (k+1) x0 x1_0 x1_1 x1_2 J =
 Ae J (.cells [.int .i64 x1_0,.int .i64 x1_1,.int .i64 x1_2] Am true) fun h1 s2=>(Ak .i64 s2 h1 (0+0)).bind fun n3=>bif n3 == 0 then ((Ak .i64 s2 h1 (0+1)).bind fun n4=>(bif decide (n4>=0) then (Ak .i64 s2 h1 (0+1)).bind fun n5=>x0.bind fun a6=>(AR s2 a6.block (a6.off+0)).bind fun l7=>some (decide (n5<((l7.2.1:Nat):Int)),s2) else some (false,s2)).bind fun r8=>(bif r8.1 then (Ak .i64 r8.2 h1 (0+2)).bind fun n9=>some (decide (n9>=0),r8.2) else some (false,r8.2)).bind fun r10=>(bif r10.1 then (Ak .i64 r10.2 h1 (0+2)).bind fun n11=>some (decide (n11<16),r10.2) else some (false,r10.2)).bind fun r12=>some (.bool r12.1,r12.2)) else (bif n3 == 1 then ((Ak .i64 s2 h1 (0+1)).bind fun n13=>(bif n13 == 0 then (Ak .i64 s2 h1 (0+2)).bind fun n14=>some (decide (n14>=0),s2) else some (false,s2)).bind fun r15=>(bif r15.1 then (Ak .i64 r15.2 h1 (0+2)).bind fun n16=>some (decide (n16<16),r15.2) else some (false,r15.2)).bind fun r17=>some (.bool r17.1,r17.2)) else (bif n3 == 2 then ((Ak .i64 s2 h1 (0+1)).bind fun n18=>(bif n18 == 0 then (Ak .i64 s2 h1 (0+2)).bind fun n19=>some (decide (n19>=0),s2) else some (false,s2)).bind fun r20=>(bif r20.1 then (Ak .i64 r20.2 h1 (0+2)).bind fun n21=>x0.bind fun a22=>(AR r20.2 a22.block (a22.off+2)).bind fun l23=>some (decide (n21<((l23.2.1:Nat):Int)),r20.2) else some (false,r20.2)).bind fun r24=>some (.bool r24.1,r24.2)) else (some (.bool false,s2)))):=by
 simp only[Hr,Ac]; kernel_rfl
theorem Mp (k:Nat) (x0:Option Addr) (J:Aa):Gq (k+1) x0 J =
 Ae J (.cells [.pointer x0] Fk true) fun h1 s2=>some (.func (.func 244) #[] #[.pointer (some ⟨h1,0,none⟩)],s2):=by
 simp only[Gq,Ac]; kernel_rfl
theorem R6 (k:Nat) (x0:Option Addr) (x1_0:Int) (x1_1:Int) (x1_2:Int) (x2:Int) (J:Aa):Hs (k+1) x0 x1_0 x1_1 x1_2 x2 J =
 Ae J (.cells [.int .i64 x1_0,.int .i64 x1_1,.int .i64 x1_2] Am true) fun h1 s2=>(Ak .i64 s2 h1 (0+0)).bind fun n3=>(bif n3 == 0 then (x0.bind fun a4=>(AR s2 a4.block (a4.off+0)).bind fun l5=>(Ak .i64 s2 h1 (0+1)).bind fun n6=>if 0<=n6/\n6<(l5.2.1:Nat) then l5.1.bind fun a7=>(AR s2 a7.block (a7.off+n6.toNat*1)).bind fun l8=>(Ak .i64 s2 h1 (0+2)).bind fun n9=>if 0<=n9/\n9<(l8.2.1:Nat) then l8.1.bind fun a10=>(CT s2 a10.block (a10.off+n9.toNat*1) (.int .i64 x2)).bind fun s11=>some (.normal,[],s11) else none else none) else ((bif n3 == 1 then (x0.bind fun a12=>(AR s2 a12.block (a12.off+1)).bind fun l13=>(Ak .i64 s2 h1 (0+2)).bind fun n14=>if 0<=n14/\n14<(l13.2.1:Nat) then l13.1.bind fun a15=>(CT s2 a15.block (a15.off+n14.toNat*1) (.int .i64 x2)).bind fun s16=>some (.normal,[],s16) else none) else (x0.bind fun a17=>(AR s2 a17.block (a17.off+2)).bind fun l18=>(Ak .i64 s2 h1 (0+2)).bind fun n19=>if 0<=n19/\n19<(l18.2.1:Nat) then l18.1.bind fun a20=>(CT s2 a20.block (a20.off+n19.toNat*1) (.int .i64 x2)).bind fun s21=>some (.normal,[],s21) else none):Option Bl).bind fun r22=>if r22.1 = .normal then (some (.normal,[],r22.2.2)) else none):Option Bl).bind fun r23=>if r23.1 = .normal then (some (.tuple #[],r23.2.2)) else none:=by
 simp only[Hs,Ac]; kernel_rfl
theorem VP (k:Nat) (x0:Option Addr) (x1_0:Int) (x1_1:Int) (x1_2:Int) (x2:Int) (J:Aa):IZ (k+1) x0 x1_0 x1_1 x1_2 x2 J =
 Ae J (.cells [.int .i64 x1_0,.int .i64 x1_1,.int .i64 x1_2] Ad true) fun h1 s2=>(Ak .i64 s2 h1 0).bind fun n3=>(Ak .i64 s2 h1 (0+1)).bind fun n4=>(Ak .i64 s2 h1 (0+1+1)).bind fun n5=>(Et k n3 n4 n5 s2).bind fun r6=>(DK r6.1).bind fun b7=>bif b7 then ((Ak .i64 r6.2 h1 0).bind fun n8=>(Ak .i64 r6.2 h1 (0+1)).bind fun n9=>(Ak .i64 r6.2 h1 (0+1+1)).bind fun n10=>(Ey k n8 n9 n10 r6.2).bind fun r11=>(Bn .i64 r11.1).bind fun n12=>(Ht k x0 n12 r11.2).bind fun r13=>(Bn .i64 r13.1).bind fun n14=>bif n14 == 0 then (some (.tuple #[.int .i64 0,.bool false],r13.2)) else ((D9 k x0 n14 n12 x2 r13.2).bind fun r15=>(Bn .i64 r15.1).bind fun n16=>some (.tuple #[.int .i64 (Ar (n14*64)),.bool (n16 == 0)],r15.2))) else ((Ak .i64 r6.2 h1 0).bind fun n17=>(Ak .i64 r6.2 h1 (0+1)).bind fun n18=>(Ak .i64 r6.2 h1 (0+1+1)).bind fun n19=>(Mo k x0 n17 n18 n19 x2 r6.2).bind fun r20=>ng r20.1 fun n21 b22=>bif b22 then (some (.tuple #[.int .i64 n21,.bool true],r20.2)) else ((Ht k x0 (1:Int) r20.2).bind fun r23=>(Bn .i64 r23.1).bind fun n24=>bif n24 == 0 then (some (.tuple #[.int .i64 0,.bool false],r23.2)) else ((FG k x0 n24 x2 r23.2).bind fun r25=>(Bn .i64 r25.1).bind fun n26=>some (.tuple #[.int .i64 (Ar (n24*64)),.bool (n26 == 0)],r25.2)))):=by
 simp only[FG,D9,Et,Ey,Ht,IZ,Mo,Ac]; kernel_rfl
theorem VL (k:Nat) (x0_0:Int) (x0_1:Int) (x0_2:Int) (J:Aa):Et (k+1) x0_0 x0_1 x0_2 J =
 Ae J (.cells [.int .i64 x0_0,.int .i64 x0_1,.int .i64 x0_2] Ad true) fun h1 s2=>(Ak .i64 s2 h1 0).bind fun n3=>(Ak .i64 s2 h1 (0+1)).bind fun n4=>(Ak .i64 s2 h1 (0+1+1)).bind fun n5=>(BW k n3 n4 n5 s2).bind fun r6=>(Bn .i64 r6.1).bind fun n7=>some (.bool (decide (n7>32)),r6.2):=by
 simp only[Et,BW,Ac]; kernel_rfl
theorem NK (k:Nat) (x0:Option Addr) (x1:Int) (x2:Int) (x3:Int) (J:Aa):BU (k+1) x0 x1 x2 x3 J =
 (Fb k x0 x1 x2 (2:Int) x3 (3:Int) x3 J).bind fun r1=>(Bn .i64 r1.1).bind fun n2=>some (.int .i64 n2,r1.2):=by
 simp only[BU,Fb,Ac]; kernel_rfl
theorem Xu (k:Nat) (x0_0:Int) (x0_1:Int) (x0_2:Int) (J:Aa):Ey (k+1) x0_0 x0_1 x0_2 J =
 Ae J (.cells [.int .i64 x0_0,.int .i64 x0_1,.int .i64 x0_2] Ad true) fun h1 s2=>(Ak .i64 s2 h1 0).bind fun n3=>(Ak .i64 s2 h1 (0+1)).bind fun n4=>(Ak .i64 s2 h1 (0+1+1)).bind fun n5=>(BW k n3 n4 n5 s2).bind fun r6=>(Bn .i64 r6.1).bind fun n7=>if (64:Int)=0 then none else some (.int .i64 (Ar ((Ar ((Ar (n7+64))-(1:Int))).tdiv (64:Int))),r6.2):=by
 simp only[Ey,BW,Ac]; kernel_rfl
theorem Rn (k:Nat) (x0:Option Addr) (x1:Int) (x2:Int) (J:Aa):Dw (k+1) x0 x1 x2 J =
 (Fb k x0 x1 (1:Int) (1:Int) x2 (0:Int) (0:Int) J).bind fun r1=>(Bn .i64 r1.1).bind fun n2=>some (.int .i64 n2,r1.2):=by
 simp only[Dw,Fb,Ac]; kernel_rfl
theorem QL (k:Nat) (x0:Option Addr) (x1:Int) (x2_0:Int) (x2_1:Int) (x2_2:Int) (J:Aa):E8 (k+1) x0 x1 x2_0 x2_1 x2_2 J =
 Ae J (.cells [.int .i64 x2_0,.int .i64 x2_1,.int .i64 x2_2] Ad true) fun h1 s2=>(AL k x0 s2).bind fun r3=>(DK r3.1).bind fun b4=>bif !b4 then (some (.tuple #[.int .i64 0,.int .i64 5],r3.2)) else ((Ak .i64 r3.2 h1 0).bind fun n5=>(Ak .i64 r3.2 h1 (0+1)).bind fun n6=>(Ak .i64 r3.2 h1 (0+1+1)).bind fun n7=>(H5 k n5 n6 n7 r3.2).bind fun r8=>(DK r8.1).bind fun b9=>bif !b9 then (some (.tuple #[.int .i64 0,.int .i64 2],r8.2)) else ((Ak .i64 r8.2 h1 0).bind fun n10=>(Ak .i64 r8.2 h1 (0+1)).bind fun n11=>(Ak .i64 r8.2 h1 (0+1+1)).bind fun n12=>(Hp k x0 x1 n10 n11 n12 (0:Int) r8.2).bind fun r13=>(Bn .i64 r13.1).bind fun n14=>bif n14 != 0 then (some (.tuple #[.int .i64 0,.int .i64 n14],r13.2)) else (x0.bind fun a15=>(Ak .i64 r13.2 a15.block (a15.off+3)).bind fun n16=>x0.bind fun a17=>(CT r13.2 a17.block (a17.off+3) (.int .i64 (Ar (n16+1)))).bind fun s18=>x0.bind fun a19=>(Ak .i64 s18 a19.block (a19.off+3)).bind fun n20=>(Ak .i64 s18 h1 0).bind fun n21=>(Ak .i64 s18 h1 (0+1)).bind fun n22=>(Ak .i64 s18 h1 (0+1+1)).bind fun n23=>(Ak .i64 s18 h1 (0+0)).bind fun n24=>if 0<=n24/\n24<=n24/\n24*(8:Nat)<=2 ^ 40/\n24<=2 ^ 40 then Ae s18 (.cells (rep n24.toNat [.int .i64 0]) Aj true) fun h25 s26=>(Ak .i64 s26 h1 (0+1)).bind fun n27=>if 0<=n27/\n27<=n27/\n27*(8:Nat)<=2 ^ 40/\n27<=2 ^ 40 then Ae s26 (.cells (rep n27.toNat [.int .i64 0]) Aj true) fun h28 s29=>(GH k x0 x1 n20 n21 n22 n23 (some ⟨h25,0,none⟩,n24.toNat,n24.toNat) (some ⟨h28,0,none⟩,n27.toNat,n27.toNat) false s29).bind fun r30=>Vz r30.1 (x0.bind fun a31=>(Ak .i64 r30.2 a31.block (a31.off+3)).bind fun n32=>some (.tuple #[.int .i64 n32,.int .i64 0],r30.2)) else none else none))):=by
 simp only[AL,E8,Hp,GH,H5,Ac]; kernel_rfl
theorem Rp (k:Nat) (x0:Option Addr) (x1:Int) (x2_0:Int) (x2_1:Int) (x2_2:Int) (J:Aa):Fa (k+1) x0 x1 x2_0 x2_1 x2_2 J =
 Ae J (.cells [.int .i64 x2_0,.int .i64 x2_1,.int .i64 x2_2] Ad true) fun h1 s2=>(AJ k x0 s2).bind fun r3=>(DK r3.1).bind fun b4=>bif !b4 then (some (.tuple #[.int .i64 0,.int .i64 5],r3.2)) else ((Ak .i64 r3.2 h1 0).bind fun n5=>(Ak .i64 r3.2 h1 (0+1)).bind fun n6=>(Ak .i64 r3.2 h1 (0+1+1)).bind fun n7=>(Ex k n5 n6 n7 r3.2).bind fun r8=>(DK r8.1).bind fun b9=>bif !b9 then (some (.tuple #[.int .i64 0,.int .i64 2],r8.2)) else ((Ak .i64 r8.2 h1 0).bind fun n10=>(Ak .i64 r8.2 h1 (0+1)).bind fun n11=>(Ak .i64 r8.2 h1 (0+1+1)).bind fun n12=>(G1 k n10 n11 n12 r8.2).bind fun r13=>(Bn .i64 r13.1).bind fun n14=>(HL k x0 x1 n14 (-1:Int) r13.2).bind fun r15=>(Bn .i64 r15.1).bind fun n16=>bif n16 != 0 then (some (.tuple #[.int .i64 0,.int .i64 n16],r15.2)) else (x0.bind fun a17=>(Ak .i64 r15.2 a17.block (a17.off+6)).bind fun n18=>x0.bind fun a19=>(CT r15.2 a19.block (a19.off+6) (.int .i64 (Ar (n18+1)))).bind fun s20=>x0.bind fun a21=>(AR s20 a21.block (a21.off+1)).bind fun l22=>x0.bind fun a23=>(AR s20 a23.block (a23.off+1)).bind fun l24=>x0.bind fun a25=>(Ak .i64 s20 a25.block (a25.off+6)).bind fun n26=>(Ak .i64 s20 h1 0).bind fun n27=>(Ak .i64 s20 h1 (0+1)).bind fun n28=>(Ak .i64 s20 h1 (0+1+1)).bind fun n29=>(JX k n27 n28 n29 s20).bind fun r30=>(Bn .i64 r30.1).bind fun n31=>if 0<=x1/\x1<(l22.2.1:Nat) then l22.1.bind fun a32=>(CT r30.2 a32.block (a32.off+x1.toNat*1) (.int .i64 n26)).bind fun s33=>if 0<=(Ar (x1+1))/\(Ar (x1+1))<(l24.2.1:Nat) then l24.1.bind fun a34=>(CT s33 a34.block (a34.off+(Ar (x1+1)).toNat*1) (.int .i64 n31)).bind fun s35=>x0.bind fun a36=>(BR s35 a36.block (a36.off+2)).bind fun p37=>if (2:Int)=0 then none else (Bv k p37 (Ar (x1.tdiv (2:Int))) (1:Int) s35).bind fun r38=>(Bn .i64 r38.1).bind fun n39=>x0.bind fun a40=>(sx r38.2 a40.block (a40.off+4)).bind fun m41=>x0.bind fun a42=>(Ak .i64 r38.2 a42.block (a42.off+6)).bind fun n43=>m41.bind fun h45=>(RS r38.2 h45).bind fun es44=>x0.bind fun a46=>(Ak .i64 (List.set r38.2 h45 (.map (MB n43 (.int .i64 x1) es44))) a46.block (a46.off+6)).bind fun n47=>some (.tuple #[.int .i64 n47,.int .i64 0],(List.set r38.2 h45 (.map (MB n43 (.int .i64 x1) es44)))) else none else none))):=by
 simp only[Fa,HL,AJ,Ex,G1,JX,Bv,Ac]; kernel_rfl
end
end
end Go.Proofs.YtjbledomkmdkmaaGreat
