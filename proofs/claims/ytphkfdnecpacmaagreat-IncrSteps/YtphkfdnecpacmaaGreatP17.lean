/-
 PRINTED BY A PROGRAM OF THIS SESSION'S OWN (gen2.py): the functions that the examples reach, as definitions.
-/
import Derived.Test.YtphkfdnecpacmaaGreatP16
set_option maxRecDepth 100000
set_option linter.unusedVariables false
set_option linter.unusedSimpArgs false
set_option linter.unusedSectionVars false
namespace Go.Proofs.YtphkfdnecpacmaaGreat
open Go Go.AX
section
variable [AA] [Kn]
theorem Bc {β:Type} {d s:Nat→β} (h0:d 0=s 0) (h:∀ k,d (k+1)=s (k+1)):d=s:=funext fun k=>match k with
 | 0=>h0
 | k+1=>h k
theorem Jy {β:Type} {d s:Nat→Nat→β} (h0:∀ k,d k 0=s k 0) (h:∀ k n,d k n=s k n→d k (n+1)=s k (n+1)):d=s:=by
 funext k n; induction n with
 | zero=>exact h0 k
 | succ n ih=>exact h k n ih
def df (f:C7):C7:=fun x0 σ=>fP x0 fun x0=>fL σ fun σ=>f x0 σ
theorem Fg (f:C7):f=df f:=by funext _ _; simp only[df,Ad]
noncomputable def BV:Nat→C7
 | 0=>fun _ _=>none
 | k+1=>df (Ir k )
theorem Cg:Ao=BV:=
 Bc (by simp only[Ao,Ab]; rfl) fun k=>by rw[NK]; exact Fg _
noncomputable def Dr:Nat→C7
 | 0=>fun _ _=>none
 | k+1=>df (MG k )
theorem Du:A7=Dr:=
 Bc (by simp only[A7,Ab]; rfl) fun k=>by rw[TN]; exact Fg _
noncomputable def Ma:Nat→C7
 | 0=>fun _ _=>none
 | k+1=>df (LU k )
theorem Pg:Da=Ma:=
 Bc (by simp only[Da,Ab]; rfl) fun k=>by rw[SR]; exact Fg _
def K1 (f:Az):Az:=fun x0 x1 σ=>fP x0 fun x0=>fI x1 fun x1=>fL σ fun σ=>f x0 x1 σ
theorem Cq (f:Az):f=K1 f:=by funext _ _ _; simp only[K1,Ad]
noncomputable def MZ:Nat→Az
 | 0=>fun _ _ _=>none
 | k+1=>K1 (MO k (Ma k))
theorem Rb:Dp=MZ:=
 Bc (by simp only[Dp,Ab]; rfl) fun k=>by rw[TW,Pg]; exact Cq _
noncomputable def Hm:Nat→C7
 | 0=>fun _ _=>none
 | k+1=>df (LS k )
theorem Im:Bp=Hm:=
 Bc (by simp only[Bp,Ab]; rfl) fun k=>by rw[SQ]; exact Fg _
def ia (f:Pq):Pq:=fun x0 x1 x2 σ=>fP x0 fun x0=>fI x1 fun x1=>fI x2 fun x2=>fL σ fun σ=>f x0 x1 x2 σ
theorem UQ (f:Pq):f=ia f:=by funext _ _ _ _; simp only[ia,Ad]
noncomputable def Tj (k n:Nat):Pq:=Nat.rec (fun _ _ _ _=>none) (fun _ ih=>ia (Jl k (MZ k) ih)) n
theorem aW:D2=Tj:=
 Jy (fun k=>by simp only[D2,Ab]; rfl) fun k n ih=>by rw[PD,Rb,ih]; exact UQ _
def XH (f:CO):CO:=fun x0 x1 x2 σ=>fP x0 fun x0=>fI x1 fun x1=>fI x2 fun x2=>fL σ fun σ=>f x0 x1 x2 σ
theorem Me (f:CO):f=XH f:=by funext _ _ _ _; simp only[XH,Ad]
noncomputable def QV:Nat→CO
 | 0=>fun _ _ _ _=>none
 | k+1=>XH (LR k (Tj k) (Hm k))
theorem VZ:CZ=QV:=
 Bc (by simp only[CZ,Ab]; rfl) fun k=>by rw[SP,aW,Im]; exact Me _
def sP (f:gY):gY:=fun x0 x1 x2 x3 x4 σ=>fP x0 fun x0=>fI x1 fun x1=>fS x2 fun x2=>fI x3 fun x3=>fI x4 fun x4=>fL σ fun σ=>f x0 x1 x2 x3 x4 σ
theorem wN (f:gY):f=sP f:=by funext _ _ _ _ _ _; simp only[sP,Ad]
noncomputable def QL (k n:Nat):gY:=Nat.rec (fun _ _ _ _ _ _=>none) (fun _ ih=>sP (Ez k (QV k) ih)) n
theorem Yg:B9=QL:=
 Jy (fun k=>by simp only[B9,Ab]; rfl) fun k n ih=>by rw[Gk,VZ,ih]; exact wN _
noncomputable def N9:Nat→CO
 | 0=>fun _ _ _ _=>none
 | k+1=>XH (JK k (QL k) (QV k))
theorem SV:Dk=N9:=
 Bc (by simp only[Dk,Ab]; rfl) fun k=>by rw[Qv,Yg,VZ]; exact Me _
noncomputable def Oz:Nat→C7
 | 0=>fun _ _=>none
 | k+1=>df (Oh k (N9 k) (Dr k))
theorem RT:Bv=Oz:=
 Bc (by simp only[Bv,Ab]; rfl) fun k=>by rw[Vg,SV,Du]; exact Fg _
noncomputable def Pf:Nat→Az
 | 0=>fun _ _ _=>none
 | k+1=>K1 (KM k (Hm k))
theorem Ur:D6=Pf:=
 Bc (by simp only[D6,Ab]; rfl) fun k=>by rw[Rs,Im]; exact Cq _
noncomputable def Sd:Nat→Az
 | 0=>fun _ _ _=>none
 | k+1=>K1 (MM k (MZ k) (Pf k))
theorem WV:CP=Sd:=
 Bc (by simp only[CP,Ab]; rfl) fun k=>by rw[TT,Rb,Ur]; exact Cq _
noncomputable def Gh:Nat→Az
 | 0=>fun _ _ _=>none
 | k+1=>K1 (Oi k (Dr k) (Sd k))
theorem GB:AH=Gh:=
 Bc (by simp only[AH,Ab]; rfl) fun k=>by rw[Vh,Du,WV]; exact Cq _
noncomputable def Ld:Nat→Az
 | 0=>fun _ _ _=>none
 | k+1=>K1 (KF k (Gh k) (Dr k))
theorem N4:Bd=Ld:=
 Bc (by simp only[Bd,Ab]; rfl) fun k=>by rw[Rp,GB,Du]; exact Cq _
def W_i (f:kP):kP:=fun x0 σ=>fI x0 fun x0=>fL σ fun σ=>f x0 σ
theorem sK (f:kP):f=W_i f:=by funext _ _; simp only[W_i,Ad]
noncomputable def UD:Nat→kP
 | 0=>fun _ _=>none
 | k+1=>W_i (Uw k )
theorem Xp:FH=UD:=
 Bc (by simp only[FH,Ab]; rfl) fun k=>by rw[ZO]; exact sK _
noncomputable def Hl:Nat→Az
 | 0=>fun _ _ _=>none
 | k+1=>K1 (Jc k (Ld k) (UD k))
theorem Il:A9=Hl:=
 Bc (by simp only[A9,Ab]; rfl) fun k=>by rw[Ml,N4,Xp]; exact Cq _
def wH (f:bj):bj:=fun x0 x1 x2 x3 σ=>fP x0 fun x0=>fI x1 fun x1=>fI x2 fun x2=>fB x3 fun x3=>fL σ fun σ=>f x0 x1 x2 x3 σ
theorem zC (f:bj):f=wH f:=by funext _ _ _ _ _; simp only[wH,Ad]
noncomputable def QN:Nat→bj
 | 0=>fun _ _ _ _ _=>none
 | k+1=>wH (LK k (Ld k) (UD k))
theorem V9:CV=QN:=
 Bc (by simp only[CV,Ab]; rfl) fun k=>by rw[SI,N4,Xp]; exact zC _
noncomputable def IZ:Nat→CO
 | 0=>fun _ _ _ _=>none
 | k+1=>XH (Oj k (QN k))
theorem Kp:AL=IZ:=
 Bc (by simp only[AL,Ab]; rfl) fun k=>by rw[Vi,V9]; exact Me _
def Afk (f:u9):u9:=fun x0 x1 σ=>fI x0 fun x0=>fP x1 fun x1=>fL σ fun σ=>f x0 x1 σ
theorem yv (f:u9):f=Afk f:=by funext _ _ _; simp only[Afk,Ad]
noncomputable def Xz:Nat→u9
 | 0=>fun _ _ _=>none
 | k+1=>Afk (Sr k (Gh k))
theorem cU:Ew=Xz:=
 Bc (by simp only[Ew,Ab]; rfl) fun k=>by rw[XW,GB]; exact yv _
theorem mE (k:Nat) (x0:Int) (c0:Option Addr) (σ:Aa):fn P (XK Kn.b) H k 160 [.int .i64 x0,.pointer c0] σ=Ew k x0 c0 σ:=by
 simp only[Ew,Ab]
noncomputable def Oc:Nat→Az
 | 0=>fun _ _ _=>none
 | k+1=>K1 (Ss k (Sd k))
theorem Rh:Cm=Oc:=
 Bc (by simp only[Cm,Ab]; rfl) fun k=>by rw[XY,WV]; exact Cq _
noncomputable def O7:Nat→Az
 | 0=>fun _ _ _=>none
 | k+1=>K1 (Ox k (Gh k) (Oc k))
theorem Sk:B7=O7:=
 Bc (by simp only[B7,Ab]; rfl) fun k=>by rw[Vw,GB,Rh]; exact Cq _
theorem jq (k:Nat) (x0:Option Addr) (x1:Int) (σ:Aa):fn P (XK Kn.b) H k 258 [.pointer x0,.int .i64 x1] σ=B7 k x0 x1 σ:=by
 simp only[B7,Ab]
noncomputable def VT:Nat→Az
 | 0=>fun _ _ _=>none
 | k+1=>K1 (KN k (Ma k))
theorem dY:Fv=VT:=
 Bc (by simp only[Fv,Ab]; rfl) fun k=>by rw[Rt,Pg]; exact Cq _
noncomputable def Rz:Nat→u9
 | 0=>fun _ _ _=>none
 | k+1=>Afk (Iz k (VT k))
theorem ZF:C6=Rz:=
 Bc (by simp only[C6,Ab]; rfl) fun k=>by rw[NU,dY]; exact yv _
theorem YH (k:Nat) (x0:Int) (c0:Option Addr) (σ:Aa):fn P (XK Kn.b) H k 281 [.int .i64 x0,.pointer c0] σ=C6 k x0 c0 σ:=by
 simp only[C6,Ab]
noncomputable def WH (k:Nat) (n:FuncId) (l:List Value) (σ:Aa):Option (Value × Aa):=
 if n=160 then (match l with
  | [.int .i64 y1,.pointer y2]=>Xz k y1 y2 σ
  | l=>fn P (XK Kn.b) H k 160 l σ) else
 if n=258 then (match l with
  | [.pointer y1,.int .i64 y2]=>O7 k y1 y2 σ
  | l=>fn P (XK Kn.b) H k 258 l σ) else
 if n=281 then (match l with
  | [.int .i64 y1,.pointer y2]=>Rz k y1 y2 σ
  | l=>fn P (XK Kn.b) H k 281 l σ) else
 fn P (XK Kn.b) H k n l σ
theorem tf (k:Nat) (n:FuncId) (l:List Value) (σ:Aa):fn P (XK Kn.b) H k n l σ=WH k n l σ:=by
 unfold WH
 split
 ·rename_i hn; subst hn
  split
  ·rw[mE,cU]
  ·rfl
 split
 ·rename_i hn; subst hn
  split
  ·rw[jq,Sk]
  ·rfl
 split
 ·rename_i hn; subst hn
  split
  ·rw[YH,ZF]
  ·rfl
 rfl
noncomputable def WI (k:Nat) (f:Value) (args:List Value) (σ:Aa):Option (Value × Aa):=match f with
 | .func (.func n) first cap=>bif Nat.beq n YF then none else WH k n (first.toList++args++cap.toList) σ
 | .func (.yield h) _ _=>fn P (XK Kn.b) H k YF (.pointer (some ⟨h,0,none⟩)::args) σ
 | .func (.method nm) first _=>(match first.toList++args with
   | .iface t v::rest=>(U8 P t nm).bind fun n=>bif Nat.beq n YF then none else WH k n (v::rest) σ
   | _=>none)
 | _=>none
theorem ig:F5=WI:=by
 funext k f args σ
 simp only[F5,Ab]
 unfold I6 WI
 simp only[tf]
 rfl
def ic (f:UP):UP:=fun x0 x1 x2 x3 x4 x5 σ=>fP x0 fun x0=>fN x1 fun x1=>fN x2 fun x2=>fI x4 fun x4=>fI x5 fun x5=>fL σ fun σ=>f x0 x1 x2 x3 x4 x5 σ
theorem kT (f:UP):f=ic f:=by funext _ _ _ _ _ _ _; simp only[ic,Ad]
noncomputable def Np (k n:Nat):UP:=Nat.rec (fun _ _ _ _ _ _ _=>none) (fun _ ih=>ic (CH k (WI k) ih)) n
theorem Wa:Cb=Np:=
 Jy (fun k=>by simp only[Cb,Ab]; rfl) fun k n ih=>by rw[DD,ig,ih]; exact kT _
def wG (f:YU):YU:=fun x0 x1 σ=>fS x0 fun x0=>fL σ fun σ=>f x0 x1 σ
theorem hU (f:YU):f=wG f:=by funext _ _ _; simp only[wG,Ad]
noncomputable def QW:Nat→YU
 | 0=>fun _ _ _=>none
 | k+1=>wG (FE k (Np k))
theorem YI:EG=QW:=
 Bc (by simp only[EG,Ab]; rfl) fun k=>by rw[IH,Wa]; exact hU _
noncomputable def IJ:Nat→YU
 | 0=>fun _ _ _=>none
 | k+1=>wG (EM k (QW k))
theorem M9:B5=IJ:=
 Bc (by simp only[B5,Ab]; rfl) fun k=>by rw[Ho,YI]; exact hU _
noncomputable def Le:Nat→C7
 | 0=>fun _ _=>none
 | k+1=>df (KK k )
theorem N6:Bo=Le:=
 Bc (by simp only[Bo,Ab]; rfl) fun k=>by rw[Rq]; exact Fg _
noncomputable def WO:Nat→C7
 | 0=>fun _ _=>none
 | k+1=>df (LO k )
theorem g9:Hf=WO:=
 Bc (by simp only[Hf,Ab]; rfl) fun k=>by rw[SM]; exact Fg _
def nR (f:bf):bf:=fun x0 x1 x2 x3 x4 x5 σ=>fP x0 fun x0=>fN x1 fun x1=>fN x2 fun x2=>fI x3 fun x3=>fI x4 fun x4=>fI x5 fun x5=>fL σ fun σ=>f x0 x1 x2 x3 x4 x5 σ
theorem uH (f:bf):f=nR f:=by funext _ _ _ _ _ _ _; simp only[nR,Ad]
noncomputable def R1 (k n:Nat):bf:=Nat.rec (fun _ _ _ _ _ _ _=>none) (fun _ ih=>nR (EZ k  ih)) n
theorem ZH:Dh=R1:=
 Jy (fun k=>by simp only[Dh,Ab]; rfl) fun k n ih=>by rw[GI,ih]; exact uH _
def Afl (f:pZ):pZ:=fun x0 x1 σ=>fS x0 fun x0=>fI x1 fun x1=>fL σ fun σ=>f x0 x1 σ
theorem yw (f:pZ):f=Afl f:=by funext _ _ _; simp only[Afl,Ad]
noncomputable def VU:Nat→pZ
 | 0=>fun _ _ _=>none
 | k+1=>Afl (HY k (R1 k))
theorem dZ:G7=VU:=
 Bc (by simp only[G7,Ab]; rfl) fun k=>by rw[L7,ZH]; exact yw _
noncomputable def LG:Nat→pZ
 | 0=>fun _ _ _=>none
 | k+1=>Afl (Gm k (VU k))
theorem Rc:Bl=LG:=
 Bc (by simp only[Bl,Ab]; rfl) fun k=>by rw[JA,dZ]; exact yw _
noncomputable def QE (k:Nat) (n:FuncId) (l:List Value) (σ:Aa):Option (Value × Aa):=
 fn P (XK Kn.b) H k n l σ
theorem mc (k:Nat) (n:FuncId) (l:List Value) (σ:Aa):fn P (XK Kn.b) H k n l σ=QE k n l σ:=by
 unfold QE
 rfl
noncomputable def LF (k:Nat) (h:Nat) (qh0:Nat) (z0_0:Int) (z0_1:Int) (z0_2:Int) (z1:Option Addr) (σ:Aa):Bw:=
 fN h fun h=>fN qh0 fun qh0=>fI z0_0 fun z0_0=>fI z0_1 fun z0_1=>fI z0_2 fun z0_2=>fP z1 fun z1=>fL σ fun σ=>EY k (LG k) h qh0 z0_0 z0_1 z0_2 z1 σ
theorem Z9 (k:Nat) (h:Nat) (qh0:Nat) (z0_0:Int) (z0_1:Int) (z0_2:Int) (z1:Option Addr) (σ:Aa):EY k (Bl k) h qh0 z0_0 z0_1 z0_2 z1 σ=LF k h qh0 z0_0 z0_1 z0_2 z1 σ:=by
 simp only[LF,Ad,Rc]
noncomputable def VR (k:Nat) (h:Nat) (args:List Value) (σ:Aa):Bw:=match k with
 | 0=>none
 | k+1=>match σ[h]? with
   | some (.loop f .ready regs)=>
     if f=162 then (match regs,args with
      | [none,none,none,some (.pointer (some ⟨y1,0,none⟩)),none,none,none,none,none,none,none,none,none,none,none,none,none,none,none,none,none,none,none,none,none,none],[.agg ⟨[.int .i64 y2,.int .i64 y3,.int .i64 y4]⟩,.pointer y5]=>LF k h y1 y2 y3 y4 y5 σ
      | _,_=>fn P (XK Kn.b) H (k+1) YF (.pointer (some ⟨h,0,none⟩)::args) σ) else
     fn P (XK Kn.b) H (k+1) YF (.pointer (some ⟨h,0,none⟩)::args) σ
   | _=>fn P (XK Kn.b) H (k+1) YF (.pointer (some ⟨h,0,none⟩)::args) σ
theorem mg (k h:Nat) (args:List Value) (σ:Aa):GS k (.func (.yield h) #[] #[]) args σ=fn P (XK Kn.b) H k YF (.pointer (some ⟨h,0,none⟩)::args) σ:=by
 simp only[GS,Ab]; rfl
theorem mj (k:Nat) (h:Nat) (args:List Value) (σ:Aa):fn P (XK Kn.b) H k YF (.pointer (some ⟨h,0,none⟩)::args) σ=VR k h args σ:=by
 cases k with
 | zero=>rfl
 | succ k=>
   unfold VR
   dsimp only
   split
   rotate_left
   ·rfl
   rename_i hσ
   split
   ·rename_i hn; subst hn
    split
    ·exact ((mg _ _ _ σ).symm.trans (Jm k _ _ _ _ _ _ σ hσ)).trans (Z9 k _ _ _ _ _ _ σ)
    ·rfl
   rfl
noncomputable def VQ (k:Nat) (f:Value) (args:List Value) (σ:Aa):Option (Value × Aa):=match f with
 | .func (.func n) first cap=>bif Nat.beq n YF then none else QE k n (first.toList++args++cap.toList) σ
 | .func (.yield h) _ _=>VR k h args σ
 | .func (.method nm) first _=>(match first.toList++args with
   | .iface t v::rest=>(U8 P t nm).bind fun n=>bif Nat.beq n YF then none else QE k n (v::rest) σ
   | _=>none)
 | _=>none
theorem mf:GS=VQ:=by
 funext k f args σ
 simp only[GS,Ab]
 unfold I6 VQ
 simp only[mj]
 simp only[mc]
 rfl
def jF (f:XE):XE:=fun x0 x1 x2 x3 x4 x5 x6 σ=>fI x1 fun x1=>fP x2 fun x2=>fN x3 fun x3=>fN x4 fun x4=>fI x5 fun x5=>fI x6 fun x6=>fL σ fun σ=>f x0 x1 x2 x3 x4 x5 x6 σ
theorem sX (f:XE):f=jF f:=by funext _ _ _ _ _ _ _ _; simp only[jF,Ad]
noncomputable def PO (k n:Nat):XE:=Nat.rec (fun _ _ _ _ _ _ _ _=>none) (fun _ ih=>jF (Fy k (VQ k) ih)) n
theorem Xx:C9=PO:=
 Jy (fun k=>by simp only[C9,Ab]; rfl) fun k n ih=>by rw[Ij,mf,ih]; exact sX _
def wQ (f:nh):nh:=fun x0 x1 x2 x3 σ=>fN x1 fun x1=>fI x2 fun x2=>fI x3 fun x3=>fL σ fun σ=>f x0 x1 x2 x3 σ
theorem zI (f:nh):f=wQ f:=by funext _ _ _ _ _; simp only[wQ,Ad]
noncomputable def PN (k n:Nat):nh:=Nat.rec (fun _ _ _ _ _=>none) (fun _ ih=>wQ (Dn k (PO k) ih)) n
theorem Xw:C8=PN:=
 Jy (fun k=>by simp only[C8,Ab]; rfl) fun k n ih=>by rw[En,Xx,ih]; exact zI _
def Aib (f:Ace):Ace:=fun x0 x1 σ=>fP x1 fun x1=>fL σ fun σ=>f x0 x1 σ
theorem Afq (f:Ace):f=Aib f:=by funext _ _ _; simp only[Aib,Ad]
noncomputable def Tf:Nat→Ace
 | 0=>fun _ _ _=>none
 | k+1=>Aib (Jj k (PN k))
theorem aS:Dy=Tf:=
 Bc (by simp only[Dy,Ab]; rfl) fun k=>by rw[PB,Xw]; exact Afq _
theorem ZA (k:Nat) (x0:Value) (c0:Option Addr) (σ:Aa):fn P (XK Kn.b) H k 152 [x0,.pointer c0] σ=Dy k x0 c0 σ:=by
 simp only[Dy,Ab]
noncomputable def WG (k:Nat) (n:FuncId) (l:List Value) (σ:Aa):Option (Value × Aa):=
 if n=152 then (match l with
  | [y1,.pointer y2]=>Tf k y1 y2 σ
  | l=>fn P (XK Kn.b) H k 152 l σ) else
 fn P (XK Kn.b) H k n l σ
theorem te (k:Nat) (n:FuncId) (l:List Value) (σ:Aa):fn P (XK Kn.b) H k n l σ=WG k n l σ:=by
 unfold WG
 split
 ·rename_i hn; subst hn
  split
  ·rw[ZA,aS]
  ·rfl
 rfl
noncomputable def cJ (k:Nat) (f:Value) (args:List Value) (σ:Aa):Option (Value × Aa):=match f with
 | .func (.func n) first cap=>bif Nat.beq n YF then none else WG k n (first.toList++args++cap.toList) σ
 | .func (.yield h) _ _=>fn P (XK Kn.b) H k YF (.pointer (some ⟨h,0,none⟩)::args) σ
 | .func (.method nm) first _=>(match first.toList++args with
   | .iface t v::rest=>(U8 P t nm).bind fun n=>bif Nat.beq n YF then none else WG k n (v::rest) σ
   | _=>none)
 | _=>none
theorem tg:Pt=cJ:=by
 funext k f args σ
 simp only[Pt,Ab]
 unfold I6 cJ
 simp only[te]
 rfl
noncomputable def NA:Nat→C7
 | 0=>fun _ _=>none
 | k+1=>df (JO k (cJ k) (WO k) (Le k))
theorem SZ:Cc=NA:=
 Bc (by simp only[Cc,Ab]; rfl) fun k=>by rw[Q0,tg,g9,N6]; exact Fg _
def wJ (f:nc):nc:=fun x0 x1 x2 x3 σ=>fN x0 fun x0=>fI x1 fun x1=>fI x2 fun x2=>fI x3 fun x3=>fL σ fun σ=>f x0 x1 x2 x3 σ
theorem zE (f:nc):f=wJ f:=by funext _ _ _ _ _; simp only[wJ,Ad]
noncomputable def fu (k n:Nat):nc:=Nat.rec (fun _ _ _ _ _=>none) (fun _ ih=>wJ (NH k (IZ k) (Xz k) ih)) n
theorem pG:HI=fu:=
 Jy (fun k=>by simp only[HI,Ab]; rfl) fun k n ih=>by rw[RS,Kp,cU,ih]; exact zE _
def nM (f:ba):ba:=fun x0 x1 x2 x3 x4 x5 σ=>fN x0 fun x0=>fP x1 fun x1=>fN x2 fun x2=>fN x3 fun x3=>fI x4 fun x4=>fI x5 fun x5=>fL σ fun σ=>f x0 x1 x2 x3 x4 x5 σ
theorem uF (f:ba):f=nM f:=by funext _ _ _ _ _ _ _; simp only[nM,Ad]
noncomputable def ft (k n:Nat):ba:=Nat.rec (fun _ _ _ _ _ _ _=>none) (fun _ ih=>nM (NG k (Hl k) (fu k) ih)) n
theorem pF:HH=ft:=
 Jy (fun k=>by simp only[HH,Ab]; rfl) fun k n ih=>by rw[RR,Il,pG,ih]; exact uF _
def Afp (f:lZ):lZ:=fun x0 x1 σ=>fP x0 fun x0=>fP x1 fun x1=>fL σ fun σ=>f x0 x1 σ
theorem yy (f:lZ):f=Afp f:=by funext _ _ _; simp only[Afp,Ad]
noncomputable def px:Nat→lZ
 | 0=>fun _ _ _=>none
 | k+1=>Afp (Zf k (Oz k) (NA k) (IJ k) (ft k))
theorem wg:Mp=px:=
 Bc (by simp only[Mp,Ab]; rfl) fun k=>by rw[eR,RT,SZ,M9,pF]; exact yy _
noncomputable def Ex:Nat→C7
 | 0=>fun _ _=>none
 | k+1=>df (Ou k )
theorem EK:A8=Ex:=
 Bc (by simp only[A8,Ab]; rfl) fun k=>by rw[Vt]; exact Fg _
def Acm (f:nJ):nJ:=fun x0 x1 x2 σ=>fP x0 fun x0=>fI x1 fun x1=>fS x2 fun x2=>fL σ fun σ=>f x0 x1 x2 σ
theorem Acn (f:nJ):f=Acm f:=by funext _ _ _ _; simp only[Acm,Ad]
noncomputable def Pe:Nat→nJ
 | 0=>fun _ _ _ _=>none
 | k+1=>Acm (KL k (Hm k) (Pf k) (IJ k))
theorem Uq:D5=Pe:=
 Bc (by simp only[D5,Ab]; rfl) fun k=>by rw[Rr,Im,Ur,M9]; exact Acn _
noncomputable def Se:Nat→CO
 | 0=>fun _ _ _ _=>none
 | k+1=>XH (MP k (Ma k))
theorem WW:EF=Se:=
 Bc (by simp only[EF,Ab]; rfl) fun k=>by rw[TX,Pg]; exact Me _
noncomputable def MY:Nat→CO
 | 0=>fun _ _ _ _=>none
 | k+1=>XH (MN k (Pe k) (Se k))
theorem Ra:Br=MY:=
 Bc (by simp only[Br,Ab]; rfl) fun k=>by rw[TU,Uq,WW]; exact Me _
noncomputable def Na:Nat→CO
 | 0=>fun _ _ _ _=>none
 | k+1=>XH (MT k (MY k))
theorem Ri:Co=Na:=
 Bc (by simp only[Co,Ab]; rfl) fun k=>by rw[Ub,Ra]; exact Me _
noncomputable def Kv:Nat→Az
 | 0=>fun _ _ _=>none
 | k+1=>K1 (MR k (Gh k) (Oc k) (Na k))
theorem Mb:Bs=Kv:=
 Bc (by simp only[Bs,Ab]; rfl) fun k=>by rw[TZ,GB,Rh,Ri]; exact Cq _
def UR (f:JU):JU:=fun x0 x1 x2 x3 x4 x5 σ=>fP x0 fun x0=>fP x1 fun x1=>fN x2 fun x2=>fN x3 fun x3=>fI x4 fun x4=>fI x5 fun x5=>fL σ fun σ=>f x0 x1 x2 x3 x4 x5 σ
theorem S8 (f:JU):f=UR f:=by funext _ _ _ _ _ _ _; simp only[UR,Ad]
noncomputable def Tl (k n:Nat):JU:=Nat.rec (fun _ _ _ _ _ _ _=>none) (fun _ ih=>UR (GQ k (Kv k) ih)) n
theorem aZ:D3=Tl:=
 Jy (fun k=>by simp only[D3,Ab]; rfl) fun k n ih=>by rw[Km,Mb,ih]; exact S8 _
noncomputable def QX:Nat→C7
 | 0=>fun _ _=>none
 | k+1=>df (LV k (NA k) (Tl k))
theorem Wd:Dt=QX:=
 Bc (by simp only[Dt,Ab]; rfl) fun k=>by rw[SS,SZ,aZ]; exact Fg _
noncomputable def YD:Nat→C7
 | 0=>fun _ _=>none
 | k+1=>df (MS k (px k) (Ex k) (QX k))
theorem jo:G9=YD:=
 Bc (by simp only[G9,Ab]; rfl) fun k=>by rw[Ua,wg,EK,Wd]; exact Fg _
noncomputable def QS:Nat→C7
 | 0=>fun _ _=>none
 | k+1=>df (H5 k (BV k) (YD k))
theorem Yk:BB=QS:=
 Bc (by simp only[BB,Ab]; rfl) fun k=>by rw[Nh,Cg,jo]; exact Fg _
def W_l (f:T_l):T_l:=fun x0 σ=>fS x0 fun x0=>fL σ fun σ=>f x0 σ
theorem Ah7 (f:T_l):f=W_l f:=by funext _ _; simp only[W_l,Ad]
noncomputable def Lf:Nat→T_l
 | 0=>fun _ _=>none
 | k+1=>W_l (KO k )
theorem NB:Be=Lf:=
 Bc (by simp only[Be,Ab]; rfl) fun k=>by rw[Ru]; exact Ah7 _
def uD (f:GM):GM:=fun x0 x1 x2 σ=>fI x0 fun x0=>fI x1 fun x1=>fI x2 fun x2=>fL σ fun σ=>f x0 x1 x2 σ
theorem nL (f:GM):f=uD f:=by funext _ _ _ _; simp only[uD,Ad]
noncomputable def QO:Nat→GM
 | 0=>fun _ _ _ _=>none
 | k+1=>uD (Uu k )
theorem Su:EA=QO:=
 Bc (by simp only[EA,Ab]; rfl) fun k=>by rw[ZM]; exact nL _
noncomputable def UC:Nat→GM
 | 0=>fun _ _ _ _=>none
 | k+1=>uD (Uv k (QO k))
theorem Xo:FG=UC:=
 Bc (by simp only[FG,Ab]; rfl) fun k=>by rw[ZN,Su]; exact nL _
noncomputable def Kt:Nat→Az
 | 0=>fun _ _ _=>none
 | k+1=>K1 (MH k (UC k) (UD k))
theorem LX:BP=Kt:=
 Bc (by simp only[BP,Ab]; rfl) fun k=>by rw[TO,Xo,Xp]; exact Cq _
noncomputable def Y8:Nat→CO
 | 0=>fun _ _ _ _=>none
 | k+1=>XH (MJ k )
theorem iH:Gz=Y8:=
 Bc (by simp only[Gz,Ab]; rfl) fun k=>by rw[TQ]; exact Me _
noncomputable def Y5:Nat→Az
 | 0=>fun _ _ _=>none
 | k+1=>K1 (MD k (Ld k) (Kt k) (Y8 k) (MY k))
theorem iE:DJ=Y5:=
 Bc (by simp only[DJ,Ab]; rfl) fun k=>by rw[TK,N4,LX,iH,Ra]; exact Cq _
noncomputable def Hz:Nat→Az
 | 0=>fun _ _ _=>none
 | k+1=>K1 (Hu k (N9 k) (Dr k))
theorem Jx:Ba=Hz:=
 Bc (by simp only[Ba,Ab]; rfl) fun k=>by rw[KR,SV,Du]; exact Cq _
noncomputable def LZ:Nat→Az
 | 0=>fun _ _ _=>none
 | k+1=>K1 (LM k (Dr k))
theorem Pb:CW=LZ:=
 Bc (by simp only[CW,Ab]; rfl) fun k=>by rw[SJ,Du]; exact Cq _
def Ack (f:kQ):kQ:=fun x0 x1 x2 σ=>fP x0 fun x0=>fI x1 fun x1=>fB x2 fun x2=>fL σ fun σ=>f x0 x1 x2 σ
theorem Acl (f:kQ):f=Ack f:=by funext _ _ _ _; simp only[Ack,Ad]
noncomputable def Y7:Nat→kQ
 | 0=>fun _ _ _ _=>none
 | k+1=>Ack (MF k (Dr k) (LZ k))
theorem iG:Gy=Y7:=
 Bc (by simp only[Gy,Ab]; rfl) fun k=>by rw[TM,Du,Pb]; exact Acl _
noncomputable def Ul (k n:Nat):Pq:=Nat.rec (fun _ _ _ _=>none) (fun _ ih=>ia (Hw k  ih)) n
theorem ck:DM=Ul:=
 Jy (fun k=>by simp only[DM,Ab]; rfl) fun k n ih=>by rw[KT,ih]; exact UQ _
noncomputable def Sb:Nat→Az
 | 0=>fun _ _ _=>none
 | k+1=>K1 (MI k (Ul k))
theorem W6:E9=Sb:=
 Bc (by simp only[E9,Ab]; rfl) fun k=>by rw[TP,ck]; exact Cq _
noncomputable def QH (k n:Nat):Pq:=Nat.rec (fun _ _ _ _=>none) (fun _ ih=>ia (FB k  ih)) n
theorem Yf:CT=QH:=
 Jy (fun k=>by simp only[CT,Ab]; rfl) fun k n ih=>by rw[IG,ih]; exact UQ _
noncomputable def Uj:Nat→Az
 | 0=>fun _ _ _=>none
 | k+1=>K1 (JJ k (Hz k) (QH k) (Y7 k) (Sb k))
theorem cg:DL=Uj:=
 Bc (by simp only[DL,Ab]; rfl) fun k=>by rw[Qu,Jx,Yf,iG,W6]; exact Cq _
noncomputable def Tg:Nat→C7
 | 0=>fun _ _=>none
 | k+1=>df (Jk k (Hm k))
theorem aT:CY=Tg:=
 Bc (by simp only[CY,Ab]; rfl) fun k=>by rw[PC,Im]; exact Fg _
def mL (f:Ws):Ws:=fun x0 x1 x2 x3 x4 σ=>fP x0 fun x0=>fI x1 fun x1=>fI x2 fun x2=>fI x3 fun x3=>fI x4 fun x4=>fL σ fun σ=>f x0 x1 x2 x3 x4 σ
theorem nN (f:Ws):f=mL f:=by funext _ _ _ _ _ _; simp only[mL,Ad]
noncomputable def Th (k n:Nat):Ws:=Nat.rec (fun _ _ _ _ _ _=>none) (fun _ ih=>mL (GO k (Se k) ih)) n
theorem aU:Dz=Th:=
 Jy (fun k=>by simp only[Dz,Ab]; rfl) fun k n ih=>by rw[Kk,WW,ih]; exact nN _
def Xa (f:DC):DC:=fun x0 x1 x2 x3 σ=>fP x0 fun x0=>fI x1 fun x1=>fI x2 fun x2=>fI x3 fun x3=>fL σ fun σ=>f x0 x1 x2 x3 σ
theorem Pr (f:DC):f=Xa f:=by funext _ _ _ _ _; simp only[Xa,Ad]
noncomputable def WQ:Nat→DC
 | 0=>fun _ _ _ _ _=>none
 | k+1=>Xa (LP k (Th k) (Pe k))
theorem gI:DY=WQ:=
 Bc (by simp only[DY,Ab]; rfl) fun k=>by rw[SN,aU,Uq]; exact Pr _
noncomputable def Uo (k n:Nat):JU:=Nat.rec (fun _ _ _ _ _ _ _=>none) (fun _ ih=>UR (Hx k (Y5 k) (Oc k) ih)) n
theorem cW:Dm=Uo:=
 Jy (fun k=>by simp only[Dm,Ab]; rfl) fun k n ih=>by rw[KX,iE,Rh,ih]; exact S8 _
noncomputable def YE:Nat→C7
 | 0=>fun _ _=>none
 | k+1=>df (MU k (Hz k) (Uj k) (Tg k) (WQ k) (Lf k) (Uo k))
theorem jr:GA=YE:=
 Bc (by simp only[GA,Ab]; rfl) fun k=>by rw[Uc,Jx,cg,aT,gI,NB,cW]; exact Fg _
def sO (f:gX):gX:=fun x0 x1 x2 x3 x4 σ=>fP x0 fun x0=>fI x1 fun x1=>fI x2 fun x2=>fS x3 fun x3=>fI x4 fun x4=>fL σ fun σ=>f x0 x1 x2 x3 x4 σ
theorem wL (f:gX):f=sO f:=by funext _ _ _ _ _ _; simp only[sO,Ad]
noncomputable def ae (k n:Nat):gX:=Nat.rec (fun _ _ _ _ _ _=>none) (fun _ ih=>sO (Lk k (IZ k) ih)) n
theorem km:Ge=ae:=
 Jy (fun k=>by simp only[Ge,Ab]; rfl) fun k n ih=>by rw[OY,Kp,ih]; exact wL _
noncomputable def jg:Nat→Az
 | 0=>fun _ _ _=>none
 | k+1=>K1 (U0 k (Hl k) (ae k))
theorem q8:Jr=jg:=
 Bc (by simp only[Jr,Ab]; rfl) fun k=>by rw[ZS,Il,km]; exact Cq _
def Acf (f:j4):j4:=fun x0 x1 σ=>fI x0 fun x0=>fI x1 fun x1=>fL σ fun σ=>f x0 x1 σ
theorem sL (f:j4):f=Acf f:=by funext _ _ _; simp only[Acf,Ad]
noncomputable def ZC:Nat→j4
 | 0=>fun _ _ _=>none
 | k+1=>Acf (U1 k )
theorem fb:GH=ZC:=
 Bc (by simp only[GH,Ab]; rfl) fun k=>by rw[ZT]; exact sL _
def j8 (f:X7):X7:=fun x0 x1 x2 x3 x4 x5 x6 σ=>fN x0 fun x0=>fP x1 fun x1=>fN x2 fun x2=>fN x3 fun x3=>fI x4 fun x4=>fS x5 fun x5=>fI x6 fun x6=>fL σ fun σ=>f x0 x1 x2 x3 x4 x5 x6 σ
theorem sN (f:X7):f=j8 f:=by funext _ _ _ _ _ _ _ _; simp only[j8,Ad]
noncomputable def WM (k n:Nat):X7:=Nat.rec (fun _ _ _ _ _ _ _ _=>none) (fun _ ih=>j8 (Jg k (ZC k) ih)) n
theorem gy:DX=WM:=
 Jy (fun k=>by simp only[DX,Ab]; rfl) fun k n ih=>by rw[Mo,fb,ih]; exact sN _
noncomputable def cK:Nat→Az
 | 0=>fun _ _ _=>none
 | k+1=>K1 (Qf k (Hl k) (jg k) (WM k))
theorem m9:GU=cK:=
 Bc (by simp only[GU,Ab]; rfl) fun k=>by rw[W0,Il,q8,gy]; exact Cq _
noncomputable def D9:Nat→C7
 | 0=>fun _ _=>none
 | k+1=>df (KD k (Dr k))
theorem DN:Av=D9:=
 Bc (by simp only[Av,Ab]; rfl) fun k=>by rw[Rn,Du]; exact Fg _
noncomputable def QK:Nat→Az
 | 0=>fun _ _ _=>none
 | k+1=>K1 (Je k (D9 k))
theorem V7:AY=QK:=
 Bc (by simp only[AY,Ab]; rfl) fun k=>by rw[Mn,DN]; exact Cq _
noncomputable def jf:Nat→Az
 | 0=>fun _ _ _=>none
 | k+1=>K1 (Uz k (Hl k))
theorem qz:Jq=jf:=
 Bc (by simp only[Jq,Ab]; rfl) fun k=>by rw[ZR,Il]; exact Cq _
def jE (f:XD):XD:=fun x0 x1 x2 x3 x4 x5 x6 σ=>fP x0 fun x0=>fP x1 fun x1=>fN x2 fun x2=>fN x3 fun x3=>fI x4 fun x4=>fS x5 fun x5=>fI x6 fun x6=>fL σ fun σ=>f x0 x1 x2 x3 x4 x5 x6 σ
theorem sW (f:XD):f=jE f:=by funext _ _ _ _ _ _ _ _; simp only[jE,Ad]
noncomputable def Oa (k n:Nat):XD:=Nat.rec (fun _ _ _ _ _ _ _ _=>none) (fun _ ih=>jE (Fh k (IZ k) (jf k) (O7 k) ih)) n
theorem Wq:BE=Oa:=
 Jy (fun k=>by simp only[BE,Ab]; rfl) fun k n ih=>by rw[H7,Kp,qz,Sk,ih]; exact sW _
noncomputable def Ob (k n:Nat):JU:=Nat.rec (fun _ _ _ _ _ _ _=>none) (fun _ ih=>UR (Fi k (Kv k) ih)) n
theorem Wr:Cl=Ob:=
 Jy (fun k=>by simp only[Cl,Ab]; rfl) fun k n ih=>by rw[H8,Mb,ih]; exact S8 _
noncomputable def R2:Nat→C7
 | 0=>fun _ _=>none
 | k+1=>df (I0 k (Oz k) (Oa k) (Ob k))
theorem ZK:DR=R2:=
 Bc (by simp only[DR,Ab]; rfl) fun k=>by rw[NV,RT,Wq,Wr]; exact Fg _
noncomputable def Pd:Nat→DC
 | 0=>fun _ _ _ _ _=>none
 | k+1=>Xa (KE k (Gh k) (QN k))
theorem Ud:Cu=Pd:=
 Bc (by simp only[Cu,Ab]; rfl) fun k=>by rw[Ro,GB,V9]; exact Pr _
def nQ (f:bd):bd:=fun x0 x1 x2 x3 x4 x5 σ=>fP x0 fun x0=>fI x1 fun x1=>fN x2 fun x2=>fI x3 fun x3=>fI x4 fun x4=>fI x5 fun x5=>fL σ fun σ=>f x0 x1 x2 x3 x4 x5 σ
theorem uG (f:bd):f=nQ f:=by funext _ _ _ _ _ _ _; simp only[nQ,Ad]
noncomputable def VS (k n:Nat):bd:=Nat.rec (fun _ _ _ _ _ _ _=>none) (fun _ ih=>nQ (HX k (IZ k) (Pd k) (ZC k) ih)) n
theorem dW:De=VS:=
 Jy (fun k=>by simp only[De,Ab]; rfl) fun k n ih=>by rw[L6,Kp,Ud,fb,ih]; exact uG _
def yx (f:hO):hO:=fun x0 x1 x2 σ=>fP x0 fun x0=>fI x1 fun x1=>fL σ fun σ=>f x0 x1 x2 σ
theorem uE (f:hO):f=yx f:=by funext _ _ _ _; simp only[yx,Ad]
noncomputable def aa:Nat→hO
 | 0=>fun _ _ _ _=>none
 | k+1=>yx (Oo k (WI k) (IZ k) (Hl k) (VS k))
theorem kl:Hn=aa:=
 Bc (by simp only[Hn,Ab]; rfl) fun k=>by rw[Vp,ig,Kp,Il,dW]; exact uE _
noncomputable def fq:Nat→hO
 | 0=>fun _ _ _ _=>none
 | k+1=>yx (Sq k (aa k))
theorem oW:HE=fq:=
 Bc (by simp only[HE,Ab]; rfl) fun k=>by rw[XU,kl]; exact uE _
noncomputable def VW (k n:Nat):JU:=Nat.rec (fun _ _ _ _ _ _ _=>none) (fun _ ih=>UR (Ia k (fq k) (O7 k) ih)) n
theorem eg:Er=VW:=
 Jy (fun k=>by simp only[Er,Ab]; rfl) fun k n ih=>by rw[LA,oW,Sk,ih]; exact S8 _
noncomputable def VX (k n:Nat):Pq:=Nat.rec (fun _ _ _ _=>none) (fun _ ih=>ia (Ib k (QK k) ih)) n
theorem ei:Es=VX:=
 Jy (fun k=>by simp only[Es,Ab]; rfl) fun k n ih=>by rw[LB,V7,ih]; exact UQ _
noncomputable def ak:Nat→C7
 | 0=>fun _ _=>none
 | k+1=>df (Ow k (Oz k) (D9 k) (R2 k) (VW k) (VX k) (QX k))
theorem kH:Gf=ak:=
 Bc (by simp only[Gf,Ab]; rfl) fun k=>by rw[Vv,RT,DN,ZK,eg,ei,Wd]; exact Fg _
noncomputable def VY (k n:Nat):JU:=Nat.rec (fun _ _ _ _ _ _ _=>none) (fun _ ih=>UR (Ic k (Kv k) ih)) n
theorem et:Et=VY:=
 Jy (fun k=>by simp only[Et,Ab]; rfl) fun k n ih=>by rw[LC,Mb,ih]; exact S8 _
noncomputable def TI:Nat→C7
 | 0=>fun _ _=>none
 | k+1=>df (IL k (Gh k) (cK k) (Lf k) (ak k) (Na k) (YE k) (VY k))
theorem YL:DE=TI:=
 Bc (by simp only[DE,Ab]; rfl) fun k=>by rw[KY,GB,m9,NB,kH,Ri,jr,et]; exact Fg _
noncomputable def VV (k n:Nat):Pq:=Nat.rec (fun _ _ _ _=>none) (fun _ ih=>ia (HZ k (TI k) ih)) n
theorem ef:Ep=VV:=
 Jy (fun k=>by simp only[Ep,Ab]; rfl) fun k n ih=>by rw[L9,YL,ih]; exact UQ _
noncomputable def aj:Nat→Az
 | 0=>fun _ _ _=>none
 | k+1=>K1 (Ov k (Ex k) (VV k))
theorem kG:Hq=aj:=
 Bc (by simp only[Hq,Ab]; rfl) fun k=>by rw[Vu,EK,ef]; exact Cq _
noncomputable def Ry:Nat→Az
 | 0=>fun _ _ _=>none
 | k+1=>K1 (Iq k (BV k) (aj k))
theorem Zx:Bk=Ry:=
 Bc (by simp only[Bk,Ab]; rfl) fun k=>by rw[NJ,Cg,kG]; exact Cq _
noncomputable def YC:Nat→C7
 | 0=>fun _ _=>none
 | k+1=>df (MQ k (Ex k))
theorem jn:G8=YC:=
 Bc (by simp only[G8,Ab]; rfl) fun k=>by rw[TY,EK]; exact Fg _
noncomputable def QR:Nat→C7
 | 0=>fun _ _=>none
 | k+1=>df (H4 k (BV k) (YC k))
theorem Yj:BA=QR:=
 Bc (by simp only[BA,Ab]; rfl) fun k=>by rw[Ng,Cg,jn]; exact Fg _
def jC (f:XB):XB:=fun x0 x1 x2 x3 x4 x5 x6 σ=>fP x0 fun x0=>fN x1 fun x1=>fN x2 fun x2=>fP x3 fun x3=>fN x4 fun x4=>fN x5 fun x5=>fI x6 fun x6=>fL σ fun σ=>f x0 x1 x2 x3 x4 x5 x6 σ
theorem sU (f:XB):f=jC f:=by funext _ _ _ _ _ _ _ _; simp only[jC,Ad]
noncomputable def ZZ (k n:Nat):XB:=Nat.rec (fun _ _ _ _ _ _ _ _=>none) (fun _ ih=>jC (Lj k  ih)) n
theorem jZ:Gd=ZZ:=
 Jy (fun k=>by simp only[Gd,Ab]; rfl) fun k n ih=>by rw[OX,ih]; exact sU _
def Ah8 (f:uA):uA:=fun x0 x1 σ=>fS x0 fun x0=>fS x1 fun x1=>fL σ fun σ=>f x0 x1 σ
theorem Afm (f:uA):f=Ah8 f:=by funext _ _ _; simp only[Ah8,Ad]
noncomputable def je:Nat→uA
 | 0=>fun _ _ _=>none
 | k+1=>Ah8 (Uy k (ZZ k))
theorem qm:D4=je:=
 Bc (by simp only[D4,Ab]; rfl) fun k=>by rw[ZQ,jZ]; exact Afm _
noncomputable def ai:Nat→C7
 | 0=>fun _ _=>none
 | k+1=>df (Ot k (Lf k) (Ex k))
theorem kF:Hp=ai:=
 Bc (by simp only[Hp,Ab]; rfl) fun k=>by rw[Vs,NB,EK]; exact Fg _
noncomputable def Rx:Nat→C7
 | 0=>fun _ _=>none
 | k+1=>df (Ip k (BV k) (ai k))
theorem Zw:BS=Rx:=
 Bc (by simp only[BS,Ab]; rfl) fun k=>by rw[NI,Cg,kF]; exact Fg _
def Aic (f:Ab1):Ab1:=fun x0 x1 σ=>fP x0 fun x0=>fI x1 fun x1=>fL σ fun σ=>f x0 x1 σ
theorem Afr (f:Ab1):f=Aic f:=by funext _ _ _; simp only[Aic,Ad]
noncomputable def Tk (k n:Nat):Ab1:=Nat.rec (fun _ _ _=>none) (fun _ ih=>Aic (Mi k (TI k) ih)) n
theorem aY:Eo=Tk:=
 Jy (fun k=>by simp only[Eo,Ab]; rfl) fun k n ih=>by rw[XX,YL,ih]; exact Afr _
noncomputable def WT:Nat→C7
 | 0=>fun _ _=>none
 | k+1=>df (Qr k (Tk k) (Ex k))
theorem gO:Hh=WT:=
 Bc (by simp only[Hh,Ab]; rfl) fun k=>by rw[bV,aY,EK]; exact Fg _
noncomputable def PM:Nat→C7
 | 0=>fun _ _=>none
 | k+1=>df (Kb k (BV k) (WT k))
theorem Xr:Eg=PM:=
 Bc (by simp only[Eg,Ab]; rfl) fun k=>by rw[Vk,Cg,gO]; exact Fg _
noncomputable def WS:Nat→Az
 | 0=>fun _ _ _=>none
 | k+1=>K1 (Qq k (Gh k) (Ex k) (Oc k))
theorem gN:Hg=WS:=
 Bc (by simp only[Hg,Ab]; rfl) fun k=>by rw[bU,GB,EK,Rh]; exact Cq _
noncomputable def PL:Nat→Az
 | 0=>fun _ _ _=>none
 | k+1=>K1 (Ka k (BV k) (WS k))
theorem Xq:Ee=PL:=
 Bc (by simp only[Ee,Ab]; rfl) fun k=>by rw[Vj,Cg,gN]; exact Cq _
noncomputable def YB:Nat→C7
 | 0=>fun _ _=>none
 | k+1=>df (RL k (Ex k))
theorem jm:HR=YB:=
 Bc (by simp only[HR,Ab]; rfl) fun k=>by rw[dV,EK]; exact Fg _
noncomputable def QQ:Nat→C7
 | 0=>fun _ _=>none
 | k+1=>df (KH k (BV k) (YB k))
theorem Yi:EC=QQ:=
 Bc (by simp only[EC,Ab]; rfl) fun k=>by rw[Wl,Cg,jm]; exact Fg _
noncomputable def QU:Nat→C7
 | 0=>fun _ _=>none
 | k+1=>df (H6 k (Le k))
theorem Yy:CX=QU:=
 Bc (by simp only[CX,Ab]; rfl) fun k=>by rw[Ni,N6]; exact Fg _
noncomputable def gE:Nat→j4
 | 0=>fun _ _ _=>none
 | k+1=>Acf (Va k (LG k))
theorem lQ:J9=gE:=
 Bc (by simp only[J9,Ab]; rfl) fun k=>by rw[Xn,Rc]; exact sL _
def wI (f:j5):j5:=fun x0 x1 x2 x3 σ=>fP x0 fun x0=>fP x1 fun x1=>fB x2 fun x2=>fI x3 fun x3=>fL σ fun σ=>f x0 x1 x2 x3 σ
theorem zD (f:j5):f=wI f:=by funext _ _ _ _ _; simp only[wI,Ad]
noncomputable def si:Nat→j5
 | 0=>fun _ _ _ _ _=>none
 | k+1=>wI (dh k (D9 k) (QU k) (gE k))
theorem xY:PE=si:=
 Bc (by simp only[PE,Ab]; rfl) fun k=>by rw[il,DN,Yy,lQ]; exact zD _
noncomputable def pv:Nat→lZ
 | 0=>fun _ _ _=>none
 | k+1=>Afp (Zb k (si k))
theorem vm:KV=pv:=
 Bc (by simp only[KV,Ab]; rfl) fun k=>by rw[eK,xY]; exact yy _
noncomputable def QJ:Nat→Az
 | 0=>fun _ _ _=>none
 | k+1=>K1 (Jd k (D9 k))
theorem V1:BO=QJ:=
 Bc (by simp only[BO,Ab]; rfl) fun k=>by rw[Mm,DN]; exact Cq _
noncomputable def pr:Nat→kP
 | 0=>fun _ _=>none
 | k+1=>W_i (Za k (gE k))
theorem vj:J5=pr:=
 Bc (by simp only[J5,Ab]; rfl) fun k=>by rw[eJ,lQ]; exact sK _
noncomputable def lO:Nat→kP
 | 0=>fun _ _=>none
 | k+1=>W_i (Wz k )
theorem tK:HF=lO:=
 Bc (by simp only[HF,Ab]; rfl) fun k=>by rw[bT]; exact sK _
def W_ (f:T_):T_:=fun  σ=>fL σ fun σ=>f  σ
theorem Ahe (f:T_):f=W_ f:=by funext  _; simp only[W_,Ad]
noncomputable def Sa:Nat→T_
 | 0=>fun  _=>none
 | k+1=>W_ (R7 k )
theorem Wx:F4=Sa:=
 Bc (by simp only[F4,Ab]; rfl) fun k=>by rw[dJ]; exact Ahe _
noncomputable def lN:Nat→CO
 | 0=>fun _ _ _ _=>none
 | k+1=>XH (bC k (Sa k) (D9 k))
theorem sZ:Ps=lN:=
 Bc (by simp only[Ps,Ab]; rfl) fun k=>by rw[oo,Wx,DN]; exact Me _
noncomputable def Ti (k n:Nat):Pq:=Nat.rec (fun _ _ _ _=>none) (fun _ ih=>ia (GP k (MZ k) ih)) n
theorem aV:D0=Ti:=
 Jy (fun k=>by simp only[D0,Ab]; rfl) fun k n ih=>by rw[Kl,Rb,ih]; exact UQ _
noncomputable def WR:Nat→CO
 | 0=>fun _ _ _ _=>none
 | k+1=>XH (LQ k (Ti k) (Hm k))
theorem gJ:FJ=WR:=
 Bc (by simp only[FJ,Ab]; rfl) fun k=>by rw[SO,aV,Im]; exact Me _
noncomputable def Y3:Nat→Az
 | 0=>fun _ _ _=>none
 | k+1=>K1 (MC k (Dr k) (Kt k) (WR k))
theorem iC:Gv=Y3:=
 Bc (by simp only[Gv,Ab]; rfl) fun k=>by rw[TJ,Du,LX,gJ]; exact Cq _
noncomputable def Uk (k n:Nat):Ws:=Nat.rec (fun _ _ _ _ _ _=>none) (fun _ ih=>mL (Hv k (Y3 k) ih)) n
theorem cj:Dl=Uk:=
 Jy (fun k=>by simp only[Dl,Ab]; rfl) fun k n ih=>by rw[KS,iC,ih]; exact nN _
noncomputable def Y6:Nat→DC
 | 0=>fun _ _ _ _ _=>none
 | k+1=>Xa (ME k (Uk k) (Sb k))
theorem iF:Gx=Y6:=
 Bc (by simp only[Gx,Ab]; rfl) fun k=>by rw[TL,cj,W6]; exact Pr _
noncomputable def fj:Nat→GM
 | 0=>fun _ _ _ _=>none
 | k+1=>uD (Sp k )
theorem oH:J6=fj:=
 Bc (by simp only[J6,Ab]; rfl) fun k=>by rw[XT]; exact nL _
def dg (f:DS):DS:=fun x0 x1 x2 x3 x4 σ=>fP x0 fun x0=>fI x1 fun x1=>fI x2 fun x2=>fI x3 fun x3=>fI x4 fun x4=>fL σ fun σ=>f x0 x1 x2 x3 x4 σ
theorem YV (f:DS):f=dg f:=by funext _ _ _ _ _ _; simp only[dg,Ad]
noncomputable def WL:Nat→DS
 | 0=>fun _ _ _ _ _ _=>none
 | k+1=>dg (LI k (Y6 k) (Dr k) (QO k) (UC k) (fj k) (MY k))
theorem gj:DV=WL:=
 Bc (by simp only[DV,Ab]; rfl) fun k=>by rw[SF,iF,Du,Su,Xo,oH,Ra]; exact YV _
noncomputable def QB:Nat→C7
 | 0=>fun _ _=>none
 | k+1=>df (KC k )
theorem XN:E8=QB:=
 Bc (by simp only[E8,Ab]; rfl) fun k=>by rw[Wj]; exact Fg _
noncomputable def jd:Nat→kP
 | 0=>fun _ _=>none
 | k+1=>W_i (Ux k )
theorem ql:KU=jd:=
 Bc (by simp only[KU,Ab]; rfl) fun k=>by rw[ZP]; exact sK _
noncomputable def Td:Nat→j4
 | 0=>fun _ _ _=>none
 | k+1=>Acf (Jf k )
theorem aQ:CU=Td:=
 Bc (by simp only[CU,Ab]; rfl) fun k=>by rw[Pu]; exact sL _
theorem Zv (k:Nat) (x0_0:Int) (x0_1:Int) (σ:Aa):fn P (XK Kn.b) H k 278 [.agg #[.int .i64 x0_0,.int .i64 x0_1]] σ=CU k x0_0 x0_1 σ:=by
 simp only[CU,Ab]
noncomputable def UB (k:Nat) (n:FuncId) (l:List Value) (σ:Aa):Option (Value × Aa):=
 if n=278 then (match l with
  | [.agg ⟨[.int .i64 y1,.int .i64 y2]⟩]=>Td k y1 y2 σ
  | l=>fn P (XK Kn.b) H k 278 l σ) else
 fn P (XK Kn.b) H k n l σ
theorem qg (k:Nat) (n:FuncId) (l:List Value) (σ:Aa):fn P (XK Kn.b) H k n l σ=UB k n l σ:=by
 unfold UB
 split
 ·rename_i hn; subst hn
  split
  ·rw[Zv,aQ]
  ·rfl
 rfl
noncomputable def ZB (k:Nat) (f:Value) (args:List Value) (σ:Aa):Option (Value × Aa):=match f with
 | .func (.func n) first cap=>bif Nat.beq n YF then none else UB k n (first.toList++args++cap.toList) σ
 | .func (.yield h) _ _=>fn P (XK Kn.b) H k YF (.pointer (some ⟨h,0,none⟩)::args) σ
 | .func (.method nm) first _=>(match first.toList++args with
   | .iface t v::rest=>(U8 P t nm).bind fun n=>bif Nat.beq n YF then none else UB k n (v::rest) σ
   | _=>none)
 | _=>none
theorem qh:Jn=ZB:=by
 funext k f args σ
 simp only[Jn,Ab]
 unfold I6 ZB
 simp only[qg]
 rfl
noncomputable def J0 (k n:Nat):UP:=Nat.rec (fun _ _ _ _ _ _ _=>none) (fun _ ih=>ic (CR k (ZB k) ih)) n
theorem PV:Bb=J0:=
 Jy (fun k=>by simp only[Bb,Ab]; rfl) fun k n ih=>by rw[Fk,qh,ih]; exact kT _
noncomputable def K8:Nat→YU
 | 0=>fun _ _ _=>none
 | k+1=>wG (EU k (J0 k))
theorem Si:CA=K8:=
 Bc (by simp only[CA,Ab]; rfl) fun k=>by rw[Jw,PV]; exact hU _
noncomputable def Jz:Nat→YU
 | 0=>fun _ _ _=>none
 | k+1=>wG (DU k (K8 k))
theorem PU:BQ=Jz:=
 Bc (by simp only[BQ,Ab]; rfl) fun k=>by rw[HG,Si]; exact hU _
def sQ (f:gZ):gZ:=fun x0 x1 x2 x3 x4 σ=>fP x0 fun x0=>fI x1 fun x1=>fN x2 fun x2=>fI x3 fun x3=>fI x4 fun x4=>fL σ fun σ=>f x0 x1 x2 x3 x4 σ
theorem wO (f:gZ):f=sQ f:=by funext _ _ _ _ _ _; simp only[sQ,Ad]
noncomputable def Te (k n:Nat):gZ:=Nat.rec (fun _ _ _ _ _ _=>none) (fun _ ih=>sQ (GN k  ih)) n
theorem aR:Dv=Te:=
 Jy (fun k=>by simp only[Dv,Ab]; rfl) fun k n ih=>by rw[Ke,ih]; exact wO _
def j7 (f:R4):R4:=fun x0 x1 x2 x3 x4 x5 x6 σ=>fP x0 fun x0=>fI x1 fun x1=>fI x2 fun x2=>fI x3 fun x3=>fI x4 fun x4=>fI x5 fun x5=>fI x6 fun x6=>fL σ fun σ=>f x0 x1 x2 x3 x4 x5 x6 σ
theorem sM (f:R4):f=j7 f:=by funext _ _ _ _ _ _ _ _; simp only[j7,Ad]
noncomputable def QM:Nat→R4
 | 0=>fun _ _ _ _ _ _ _ _=>none
 | k+1=>j7 (LJ k (Te k) (Dr k) (LZ k) (jd k) (Jz k))
theorem V8:DW=QM:=
 Bc (by simp only[DW,Ab]; rfl) fun k=>by rw[SH,aR,Du,Pb,ql,PU]; exact sM _
noncomputable def QG:Nat→DC
 | 0=>fun _ _ _ _ _=>none
 | k+1=>Xa (H3 k (QM k))
theorem Ye:Bn=QG:=
 Bc (by simp only[Bn,Ab]; rfl) fun k=>by rw[Nf,V8]; exact Pr _
noncomputable def M8 (k n:Nat):Pq:=Nat.rec (fun _ _ _ _=>none) (fun _ ih=>ia (HW k (D9 k) (QG k) ih)) n
theorem Ut:Ct=M8:=
 Jy (fun k=>by simp only[Ct,Ab]; rfl) fun k n ih=>by rw[SD,DN,Ye,ih]; exact UQ _
noncomputable def PK:Nat→Az
 | 0=>fun _ _ _=>none
 | k+1=>K1 (JY k (M8 k))
theorem Xc:Ed=PK:=
 Bc (by simp only[Ed,Ab]; rfl) fun k=>by rw[Ve,Ut]; exact Cq _
theorem Wg (k:Nat) (x0:Option Addr) (x1:Int) (σ:Aa):fn P (XK Kn.b) H k 264 [.pointer x0,.int .i64 x1] σ=Ed k x0 x1 σ:=by
 simp only[Ed,Ab]
noncomputable def WJ:Nat→CO
 | 0=>fun _ _ _ _=>none
 | k+1=>XH (LH k (QM k))
theorem gh:CS=WJ:=
 Bc (by simp only[CS,Ab]; rfl) fun k=>by rw[SE,V8]; exact Me _
def Acr (f:hJ):hJ:=fun x0 x1 x2 σ=>fP x0 fun x0=>fN x1 fun x1=>fI x2 fun x2=>fL σ fun σ=>f x0 x1 x2 σ
theorem Acs (f:hJ):f=Acr f:=by funext _ _ _ _; simp only[Acr,Ad]
noncomputable def M7 (k n:Nat):hJ:=Nat.rec (fun _ _ _ _=>none) (fun _ ih=>Acr (HV k (D9 k) (WJ k) ih)) n
theorem Us:Cs=M7:=
 Jy (fun k=>by simp only[Cs,Ab]; rfl) fun k n ih=>by rw[SC,DN,gh,ih]; exact Acs _
noncomputable def Hj:Nat→C7
 | 0=>fun _ _=>none
 | k+1=>df (JX k (M7 k))
theorem J1:Bx=Hj:=
 Bc (by simp only[Bx,Ab]; rfl) fun k=>by rw[Vd,Us]; exact Fg _
def Aia (f:uC):uC:=fun x0 x1 σ=>fP x0 fun x0=>fS x1 fun x1=>fL σ fun σ=>f x0 x1 σ
theorem Afo (f:uC):f=Aia f:=by funext _ _ _; simp only[Aia,Ad]
noncomputable def Hk:Nat→uC
 | 0=>fun _ _ _=>none
 | k+1=>Aia (JZ k (Hj k))
theorem J2:Bz=Hk:=
 Bc (by simp only[Bz,Ab]; rfl) fun k=>by rw[Vf,J1]; exact Afo _
def wM (f:jy):jy:=fun x0 x1 x2 x3 σ=>fP x0 fun x0=>fI x1 fun x1=>fS x2 fun x2=>fI x3 fun x3=>fL σ fun σ=>f x0 x1 x2 x3 σ
theorem zG (f:jy):f=wM f:=by funext _ _ _ _ _; simp only[wM,Ad]
noncomputable def LY (k n:Nat):jy:=Nat.rec (fun _ _ _ _ _=>none) (fun _ ih=>wM (H2 k (QJ k) (QK k) ih)) n
theorem Tv:Cf=LY:=
 Jy (fun k=>by simp only[Cf,Ab]; rfl) fun k n ih=>by rw[RQ,V1,V7,ih]; exact zG _
noncomputable def JD:Nat→C7
 | 0=>fun _ _=>none
 | k+1=>df (J3 k (LY k) (D9 k))
theorem Nc:Cj=JD:=
 Bc (by simp only[Cj,Ab]; rfl) fun k=>by rw[U2,Tv,DN]; exact Fg _
noncomputable def Sc:Nat→Az
 | 0=>fun _ _ _=>none
 | k+1=>K1 (RA k (LZ k))
theorem W7:F6=Sc:=
 Bc (by simp only[F6,Ab]; rfl) fun k=>by rw[dM,Pb]; exact Cq _
def Acg (f:nI):nI:=fun x0 x1 x2 σ=>fI x0 fun x0=>fP x1 fun x1=>fP x2 fun x2=>fL σ fun σ=>f x0 x1 x2 σ
theorem Ach (f:nI):f=Acg f:=by funext _ _ _ _; simp only[Acg,Ad]
noncomputable def N8:Nat→nI
 | 0=>fun _ _ _ _=>none
 | k+1=>Acg (Nu k )
theorem SU:DK=N8:=
 Bc (by simp only[DK,Ab]; rfl) fun k=>by rw[Zk]; exact Ach _
def YW (f:OA):OA:=fun x0 x1 x2 x3 x4 x5 x6 x7 σ=>fP x0 fun x0=>fN x1 fun x1=>fN x2 fun x2=>fP x3 fun x3=>fN x4 fun x4=>fN x5 fun x5=>fI x6 fun x6=>fI x7 fun x7=>fL σ fun σ=>f x0 x1 x2 x3 x4 x5 x6 x7 σ
theorem eE (f:OA):f=YW f:=by funext _ _ _ _ _ _ _ _ _; simp only[YW,Ad]
noncomputable def Ui (k n:Nat):OA:=Nat.rec (fun _ _ _ _ _ _ _ _ _=>none) (fun _ ih=>YW (Nv k (N8 k) (Kt k) ih)) n
theorem cf:EN=Ui:=
 Jy (fun k=>by simp only[EN,Ab]; rfl) fun k n ih=>by rw[Zl,SU,LX,ih]; exact eE _
noncomputable def Y4:Nat→Az
 | 0=>fun _ _ _=>none
 | k+1=>K1 (R9 k (N8 k) (Ui k) (Hz k) (Sc k))
theorem iD:HN=Y4:=
 Bc (by simp only[HN,Ab]; rfl) fun k=>by rw[dL,SU,cf,Jx,W7]; exact Cq _
def fK (f:UM):UM:=fun x0 x1 x2 x3 x4 x5 x6 x7 σ=>fI x0 fun x0=>fI x1 fun x1=>fP x2 fun x2=>fN x3 fun x3=>fN x4 fun x4=>fI x5 fun x5=>fS x6 fun x6=>fI x7 fun x7=>fL σ fun σ=>f x0 x1 x2 x3 x4 x5 x6 x7 σ
theorem qa (f:UM):f=fK f:=by funext _ _ _ _ _ _ _ _ _; simp only[fK,Ad]
noncomputable def Nk (k n:Nat):UM:=Nat.rec (fun _ _ _ _ _ _ _ _ _=>none) (fun _ ih=>fK (IC k  ih)) n
theorem UT:CK=Nk:=
 Jy (fun k=>by simp only[CK,Ab]; rfl) fun k n ih=>by rw[TA,ih]; exact qa _
def bm (f:Sz):Sz:=fun x0 x1 x2 x3 x4 x5 x6 x7 x8 σ=>fP x0 fun x0=>fI x1 fun x1=>fI x2 fun x2=>fP x3 fun x3=>fN x4 fun x4=>fN x5 fun x5=>fI x6 fun x6=>fS x7 fun x7=>fI x8 fun x8=>fL σ fun σ=>f x0 x1 x2 x3 x4 x5 x6 x7 x8 σ
theorem nO (f:Sz):f=bm f:=by funext _ _ _ _ _ _ _ _ _ _; simp only[bm,Ad]
noncomputable def Nj (k n:Nat):Sz:=Nat.rec (fun _ _ _ _ _ _ _ _ _ _=>none) (fun _ ih=>bm (IB k (Nk k) (Y4 k) ih)) n
theorem US:CJ=Nj:=
 Jy (fun k=>by simp only[CJ,Ab]; rfl) fun k n ih=>by rw[T9,UT,iD,ih]; exact nO _
noncomputable def HC:Nat→CO
 | 0=>fun _ _ _ _=>none
 | k+1=>XH (KA k (JD k) (Nj k))
theorem JV:B8=HC:=
 Bc (by simp only[B8,Ab]; rfl) fun k=>by rw[Wh,Nc,US]; exact Me _
noncomputable def Ug:Nat→Az
 | 0=>fun _ _ _=>none
 | k+1=>K1 (Ns k (HC k) (Hk k))
theorem bu:FT=Ug:=
 Bc (by simp only[FT,Ab]; rfl) fun k=>by rw[Zi,JV,J2]; exact Cq _
theorem ao (k:Nat) (x1:Option Addr) (x2:Int) (σ:Aa):fn P (XK Kn.b) H k 311 [.agg #[],.pointer x1,.int .i64 x2] σ=FT k x1 x2 σ:=by
 simp only[FT,Ab]
def wE (f:fH):fH:=fun x0 x1 x2 x3 σ=>fI x0 fun x0=>fI x1 fun x1=>fI x2 fun x2=>fI x3 fun x3=>fL σ fun σ=>f x0 x1 x2 x3 σ
theorem zA (f:fH):f=wE f:=by funext _ _ _ _ _; simp only[wE,Ad]
noncomputable def Rw:Nat→fH
 | 0=>fun _ _ _ _ _=>none
 | k+1=>wE (Lz k )
theorem YY:Fa=Rw:=
 Bc (by simp only[Fa,Ab]; rfl) fun k=>by rw[Xl]; exact zA _
theorem XO (k:Nat) (x0_0:Int) (x0_1:Int) (x1_0:Int) (x1_1:Int) (σ:Aa):fn P (XK Kn.b) H k 321 [.agg #[.int .i64 x0_0,.int .i64 x0_1],.agg #[.int .i64 x1_0,.int .i64 x1_1]] σ=Fa k x0_0 x0_1 x1_0 x1_1 σ:=by
 simp only[Fa,Ab]
noncomputable def QD (k:Nat) (n:FuncId) (l:List Value) (σ:Aa):Option (Value × Aa):=
 if n=321 then (match l with
  | [.agg ⟨[.int .i64 y1,.int .i64 y2]⟩,.agg ⟨[.int .i64 y3,.int .i64 y4]⟩]=>Rw k y1 y2 y3 y4 σ
  | l=>fn P (XK Kn.b) H k 321 l σ) else
 fn P (XK Kn.b) H k n l σ
theorem mb (k:Nat) (n:FuncId) (l:List Value) (σ:Aa):fn P (XK Kn.b) H k n l σ=QD k n l σ:=by
 unfold QD
 split
 ·rename_i hn; subst hn
  split
  ·rw[XO,YY]
  ·rfl
 rfl
noncomputable def VP (k:Nat) (f:Value) (args:List Value) (σ:Aa):Option (Value × Aa):=match f with
 | .func (.func n) first cap=>bif Nat.beq n YF then none else QD k n (first.toList++args++cap.toList) σ
 | .func (.yield h) _ _=>fn P (XK Kn.b) H k YF (.pointer (some ⟨h,0,none⟩)::args) σ
 | .func (.method nm) first _=>(match first.toList++args with
   | .iface t v::rest=>(U8 P t nm).bind fun n=>bif Nat.beq n YF then none else QD k n (v::rest) σ
   | _=>none)
 | _=>none
theorem me:Qt=VP:=by
 funext k f args σ
 simp only[Qt,Ab]
 unfold I6 VP
 simp only[mb]
 rfl
def ib (f:UN):UN:=fun x0 x1 x2 x3 x4 x5 σ=>fP x0 fun x0=>fN x1 fun x1=>fN x2 fun x2=>fI x3 fun x3=>fI x5 fun x5=>fL σ fun σ=>f x0 x1 x2 x3 x4 x5 σ
theorem kS (f:UN):f=ib f:=by funext _ _ _ _ _ _ _; simp only[ib,Ad]
noncomputable def Gp (k n:Nat):UN:=Nat.rec (fun _ _ _ _ _ _ _=>none) (fun _ ih=>ib (DP k (VP k) ih)) n
theorem Lq:AR=Gp:=
 Jy (fun k=>by simp only[AR,Ab]; rfl) fun k n ih=>by rw[K3,me,ih]; exact kS _
def jA (f:X9):X9:=fun x0 x1 x2 x3 x4 x5 x6 σ=>fP x0 fun x0=>fN x1 fun x1=>fN x2 fun x2=>fI x3 fun x3=>fI x4 fun x4=>fI x6 fun x6=>fL σ fun σ=>f x0 x1 x2 x3 x4 x5 x6 σ
theorem sS (f:X9):f=jA f:=by funext _ _ _ _ _ _ _ _; simp only[jA,Ad]
noncomputable def Gn (k n:Nat):X9:=Nat.rec (fun _ _ _ _ _ _ _ _=>none) (fun _ ih=>jA (DO k (Gp k) ih)) n
theorem Lp:AQ=Gn:=
 Jy (fun k=>by simp only[AQ,Ab]; rfl) fun k n ih=>by rw[K2,Lq,ih]; exact sS _
def wF (f:fJ):fJ:=fun x0 x1 x2 x3 σ=>fS x0 fun x0=>fI x1 fun x1=>fI x2 fun x2=>fL σ fun σ=>f x0 x1 x2 x3 σ
theorem zB (f:fJ):f=wF f:=by funext _ _ _ _ _; simp only[wF,Ad]
noncomputable def EI:Nat→fJ
 | 0=>fun _ _ _ _ _=>none
 | k+1=>wF (E6 k (Gn k))
theorem Ha:AO=EI:=
 Bc (by simp only[AO,Ab]; rfl) fun k=>by rw[L8,Lp]; exact zB _
noncomputable def FN (k:Nat) (x0:Option Addr × Nat × Nat) (x1:Int) (x2:Int) (x3:Int) (x4:Value) (σ:Aa):Option (Value × Aa):=BR k x0 x1 x2 x3 x4 σ
theorem IA:BR=FN:=rfl
def jB (f:XA):XA:=fun x0 x1 x2 x3 x4 x5 x6 σ=>fP x0 fun x0=>fN x1 fun x1=>fN x2 fun x2=>fI x3 fun x3=>fI x5 fun x5=>fI x6 fun x6=>fL σ fun σ=>f x0 x1 x2 x3 x4 x5 x6 σ
theorem sT (f:XA):f=jB f:=by funext _ _ _ _ _ _ _ _; simp only[jB,Ad]
noncomputable def I7 (k n:Nat):XA:=Nat.rec (fun _ _ _ _ _ _ _ _=>none) (fun _ ih=>jB (F7 k (EI k) ih)) n
theorem Ph:Bh=I7:=
 Jy (fun k=>by simp only[Bh,Ab]; rfl) fun k n ih=>by rw[N1,Ha,ih]; exact sT _
def fM (f:UO):UO:=fun x0 x1 x2 x3 x4 x5 x6 x7 σ=>fP x0 fun x0=>fN x1 fun x1=>fN x2 fun x2=>fI x3 fun x3=>fI x5 fun x5=>fI x6 fun x6=>fI x7 fun x7=>fL σ fun σ=>f x0 x1 x2 x3 x4 x5 x6 x7 σ
theorem qc (f:UO):f=fM f:=by funext _ _ _ _ _ _ _ _ _; simp only[fM,Ad]
noncomputable def I9 (k n:Nat):UO:=Nat.rec (fun _ _ _ _ _ _ _ _ _=>none) (fun _ ih=>fM (F9 k (FN k) ih)) n
theorem Pk:Bj=I9:=
 Jy (fun k=>by simp only[Bj,Ab]; rfl) fun k n ih=>by rw[N3,IA,ih]; exact qc _
noncomputable def I8 (k n:Nat):UN:=Nat.rec (fun _ _ _ _ _ _ _=>none) (fun _ ih=>ib (F8 k (I9 k) (FN k) ih)) n
theorem Pj:Bi=I8:=
 Jy (fun k=>by simp only[Bi,Ab]; rfl) fun k n ih=>by rw[N2,Pk,IA,ih]; exact kS _
def Aci (f:qY):qY:=fun x0 x1 x2 σ=>fS x0 fun x0=>fI x1 fun x1=>fL σ fun σ=>f x0 x1 x2 σ
theorem Acj (f:qY):f=Aci f:=by funext _ _ _ _; simp only[Aci,Ad]
noncomputable def Ku:Nat→qY
 | 0=>fun _ _ _ _=>none
 | k+1=>Aci (Gq k (EI k) (I7 k) (I8 k))
theorem Rm:Cn=Ku:=
 Bc (by simp only[Cn,Ab]; rfl) fun k=>by rw[PS,Ha,Ph,Pj]; exact Acj _
noncomputable def JH:Nat→YU
 | 0=>fun _ _ _=>none
 | k+1=>wG (Gi k (Ku k))
theorem Rd:Cd=JH:=
 Bc (by simp only[Cd,Ab]; rfl) fun k=>by rw[OZ,Rm]; exact hU _
noncomputable def VM:Nat→Az
 | 0=>fun _ _ _=>none
 | k+1=>K1 (OD k (HC k) (Hk k) (JH k))
theorem dE:Gr=VM:=
 Bc (by simp only[Gr,Ab]; rfl) fun k=>by rw[av,JV,J2,Rd]; exact Cq _
theorem bq (k:Nat) (x1:Option Addr) (x2:Int) (σ:Aa):fn P (XK Kn.b) H k 319 [.agg #[],.pointer x1,.int .i64 x2] σ=Gr k x1 x2 σ:=by
 simp only[Gr,Ab]
noncomputable def VO:Nat→Az
 | 0=>fun _ _ _=>none
 | k+1=>K1 (OG k (HC k) (Hk k))
theorem dG:Gt=VO:=
 Bc (by simp only[Gt,Ab]; rfl) fun k=>by rw[ax,JV,J2]; exact Cq _
theorem bA (k:Nat) (x1:Option Addr) (x2:Int) (σ:Aa):fn P (XK Kn.b) H k 327 [.agg #[],.pointer x1,.int .i64 x2] σ=Gt k x1 x2 σ:=by
 simp only[Gt,Ab]
noncomputable def RZ:Nat→Az
 | 0=>fun _ _ _=>none
 | k+1=>K1 (R6 k )
theorem Ww:Fz=RZ:=
 Bc (by simp only[Fz,Ab]; rfl) fun k=>by rw[dI]; exact Cq _
noncomputable def QC:Nat→Az
 | 0=>fun _ _ _=>none
 | k+1=>K1 (Qa k )
theorem UY:EV=QC:=
 Bc (by simp only[EV,Ab]; rfl) fun k=>by rw[bG]; exact Cq _
def Aco (f:nK):nK:=fun x0 x1 x2 σ=>fP x0 fun x0=>fP x1 fun x1=>fI x2 fun x2=>fL σ fun σ=>f x0 x1 x2 σ
theorem Acp (f:nK):f=Aco f:=by funext _ _ _ _; simp only[Aco,Ad]
noncomputable def JE:Nat→nK
 | 0=>fun _ _ _ _=>none
 | k+1=>Aco (J4 k (Hj k) (RZ k) (QC k))
theorem Nd:Ck=JE:=
 Bc (by simp only[Ck,Ab]; rfl) fun k=>by rw[U3,J1,Ww,UY]; exact Acp _
noncomputable def VN:Nat→Az
 | 0=>fun _ _ _=>none
 | k+1=>K1 (OE k (JE k))
theorem dF:Gs=VN:=
 Bc (by simp only[Gs,Ab]; rfl) fun k=>by rw[aw,Nd]; exact Cq _
theorem bt (k:Nat) (x1:Option Addr) (x2:Int) (σ:Aa):fn P (XK Kn.b) H k 328 [.agg #[],.pointer x1,.int .i64 x2] σ=Gs k x1 x2 σ:=by
 simp only[Gs,Ab]
def wK (f:nf):nf:=fun x0 x1 x2 x3 σ=>fN x0 fun x0=>fN x1 fun x1=>fI x2 fun x2=>fI x3 fun x3=>fL σ fun σ=>f x0 x1 x2 x3 σ
theorem zF (f:nf):f=wK f:=by funext _ _ _ _ _; simp only[wK,Ad]
noncomputable def Tc (k n:Nat):nf:=Nat.rec (fun _ _ _ _ _=>none) (fun _ ih=>wK (Mg k  ih)) n
theorem aP:Em=Tc:=
 Jy (fun k=>by simp only[Em,Ab]; rfl) fun k n ih=>by rw[XS,ih]; exact zF _
noncomputable def Tb (k n:Nat):OA:=Nat.rec (fun _ _ _ _ _ _ _ _ _=>none) (fun _ ih=>YW (Mf k (Tc k) (Kt k) ih)) n
theorem aO:Ek=Tb:=
 Jy (fun k=>by simp only[Ek,Ab]; rfl) fun k n ih=>by rw[XR,aP,LX,ih]; exact eE _
noncomputable def WK:Nat→Az
 | 0=>fun _ _ _=>none
 | k+1=>K1 (Qc k (Tb k) (Hz k) (Sc k))
theorem gi:Hd=WK:=
 Bc (by simp only[Hd,Ab]; rfl) fun k=>by rw[bI,aO,Jx,W7]; exact Cq _
def wP (f:ng):ng:=fun x0 x1 x2 x3 σ=>fP x0 fun x0=>fN x1 fun x1=>fN x2 fun x2=>fI x3 fun x3=>fL σ fun σ=>f x0 x1 x2 x3 σ
theorem zH (f:ng):f=wP f:=by funext _ _ _ _ _; simp only[wP,Ad]
noncomputable def Nn (k n:Nat):ng:=Nat.rec (fun _ _ _ _ _=>none) (fun _ ih=>wP (IF k  ih)) n
theorem UX:CN=Nn:=
 Jy (fun k=>by simp only[CN,Ab]; rfl) fun k n ih=>by rw[TE,ih]; exact zH _
def j9 (f:X8):X8:=fun x0 x1 x2 x3 x4 x5 x6 σ=>fP x0 fun x0=>fN x1 fun x1=>fI x2 fun x2=>fP x3 fun x3=>fN x4 fun x4=>fN x5 fun x5=>fI x6 fun x6=>fL σ fun σ=>f x0 x1 x2 x3 x4 x5 x6 σ
theorem sR (f:X8):f=j9 f:=by funext _ _ _ _ _ _ _ _; simp only[j9,Ad]
noncomputable def Nm (k n:Nat):X8:=Nat.rec (fun _ _ _ _ _ _ _ _=>none) (fun _ ih=>j9 (IE k (Nn k) ih)) n
theorem UW:CM=Nm:=
 Jy (fun k=>by simp only[CM,Ab]; rfl) fun k n ih=>by rw[TD,UX,ih]; exact sR _
def jD (f:XC):XC:=fun x0 x1 x2 x3 x4 x5 x6 σ=>fP x0 fun x0=>fN x1 fun x1=>fP x2 fun x2=>fN x3 fun x3=>fN x4 fun x4=>fI x5 fun x5=>fI x6 fun x6=>fL σ fun σ=>f x0 x1 x2 x3 x4 x5 x6 σ
theorem sV (f:XC):f=jD f:=by funext _ _ _ _ _ _ _ _; simp only[jD,Ad]
noncomputable def Nl (k n:Nat):XC:=Nat.rec (fun _ _ _ _ _ _ _ _=>none) (fun _ ih=>jD (ID k (Nm k) (WK k) ih)) n
theorem UU:CL=Nl:=
 Jy (fun k=>by simp only[CL,Ab]; rfl) fun k n ih=>by rw[TB,UW,gi,ih]; exact sV _
noncomputable def QA:Nat→C7
 | 0=>fun _ _=>none
 | k+1=>df (KB k (Hj k) (JD k) (Nl k))
theorem XM:E7=QA:=
 Bc (by simp only[E7,Ab]; rfl) fun k=>by rw[Wi,J1,Nc,UU]; exact Fg _
noncomputable def Uh:Nat→Az
 | 0=>fun _ _ _=>none
 | k+1=>K1 (Nt k (JE k) (QA k) (RZ k) (QC k))
theorem bw:FU=Uh:=
 Bc (by simp only[FU,Ab]; rfl) fun k=>by rw[Zj,Nd,XM,Ww,UY]; exact Cq _
theorem aq (k:Nat) (x1:Option Addr) (x2:Int) (σ:Aa):fn P (XK Kn.b) H k 332 [.agg #[],.pointer x1,.int .i64 x2] σ=FU k x1 x2 σ:=by
 simp only[FU,Ab]
noncomputable def Sx (k:Nat) (n:FuncId) (l:List Value) (σ:Aa):Option (Value × Aa):=
 if n=264 then (match l with
  | [.pointer y1,.int .i64 y2]=>PK k y1 y2 σ
  | l=>fn P (XK Kn.b) H k 264 l σ) else
 if n=311 then (match l with
  | [.agg ⟨[]⟩,.pointer y1,.int .i64 y2]=>Ug k y1 y2 σ
  | l=>fn P (XK Kn.b) H k 311 l σ) else
 if n=319 then (match l with
  | [.agg ⟨[]⟩,.pointer y1,.int .i64 y2]=>VM k y1 y2 σ
  | l=>fn P (XK Kn.b) H k 319 l σ) else
 if n=327 then (match l with
  | [.agg ⟨[]⟩,.pointer y1,.int .i64 y2]=>VO k y1 y2 σ
  | l=>fn P (XK Kn.b) H k 327 l σ) else
 if n=328 then (match l with
  | [.agg ⟨[]⟩,.pointer y1,.int .i64 y2]=>VN k y1 y2 σ
  | l=>fn P (XK Kn.b) H k 328 l σ) else
 if n=332 then (match l with
  | [.agg ⟨[]⟩,.pointer y1,.int .i64 y2]=>Uh k y1 y2 σ
  | l=>fn P (XK Kn.b) H k 332 l σ) else
 fn P (XK Kn.b) H k n l σ
theorem od (k:Nat) (n:FuncId) (l:List Value) (σ:Aa):fn P (XK Kn.b) H k n l σ=Sx k n l σ:=by
 unfold Sx
 split
 ·rename_i hn; subst hn
  split
  ·rw[Wg,Xc]
  ·rfl
 split
 ·rename_i hn; subst hn
  split
  ·rw[ao,bu]
  ·rfl
 split
 ·rename_i hn; subst hn
  split
  ·rw[bq,dE]
  ·rfl
 split
 ·rename_i hn; subst hn
  split
  ·rw[bA,dG]
  ·rfl
 split
 ·rename_i hn; subst hn
  split
  ·rw[bt,dF]
  ·rfl
 split
 ·rename_i hn; subst hn
  split
  ·rw[aq,bw]
  ·rfl
 rfl
noncomputable def Xy (k:Nat) (f:Value) (args:List Value) (σ:Aa):Option (Value × Aa):=match f with
 | .func (.func n) first cap=>bif Nat.beq n YF then none else Sx k n (first.toList++args++cap.toList) σ
 | .func (.yield h) _ _=>fn P (XK Kn.b) H k YF (.pointer (some ⟨h,0,none⟩)::args) σ
 | .func (.method nm) first _=>(match first.toList++args with
   | .iface t v::rest=>(U8 P t nm).bind fun n=>bif Nat.beq n YF then none else Sx k n (v::rest) σ
   | _=>none)
 | _=>none
theorem oe:St=Xy:=by
 funext k f args σ
 simp only[St,Ab]
 unfold I6 Xy
 simp only[od]
 rfl
noncomputable def PJ:Nat→DC
 | 0=>fun _ _ _ _ _=>none
 | k+1=>Xa (JW k (QB k) (Sa k) (Xy k) (WL k) (QJ k) (QO k) (UC k))
theorem Xb:Ec=PJ:=
 Bc (by simp only[Ec,Ab]; rfl) fun k=>by rw[Vc,XN,Wx,oe,gj,V1,Su,Xo]; exact Pr _
noncomputable def YA:Nat→DS
 | 0=>fun _ _ _ _ _ _=>none
 | k+1=>dg (RK k (PJ k) (lN k) (QO k) (Ex k) (Na k))
theorem jl:HQ=YA:=
 Bc (by simp only[HQ,Ab]; rfl) fun k=>by rw[dU,Xb,sZ,Su,EK,Ri]; exact YV _
noncomputable def QP:Nat→DS
 | 0=>fun _ _ _ _ _ _=>none
 | k+1=>dg (KG k (BV k) (YA k))
theorem Yh:EB=QP:=
 Bc (by simp only[EB,Ab]; rfl) fun k=>by rw[Wk,Cg,jl]; exact YV _
def Ah9 (f:z9):z9:=fun x0 x1 σ=>fS x0 fun x0=>fP x1 fun x1=>fL σ fun σ=>f x0 x1 σ
theorem Afn (f:z9):f=Ah9 f:=by funext _ _ _; simp only[Ah9,Ad]
noncomputable def Um:Nat→z9
 | 0=>fun _ _ _=>none
 | k+1=>Ah9 (JP k )
theorem c9:ER=Um:=
 Bc (by simp only[ER,Ab]; rfl) fun k=>by rw[Q2]; exact Afn _
noncomputable def Y9:Nat→DC
 | 0=>fun _ _ _ _ _=>none
 | k+1=>Xa (ML k (Um k))
theorem jc:G6=Y9:=
 Bc (by simp only[G6,Ab]; rfl) fun k=>by rw[TS,c9]; exact Pr _
noncomputable def Un:Nat→DC
 | 0=>fun _ _ _ _ _=>none
 | k+1=>Xa (JQ k (Y9 k) (Le k))
theorem cA:ES=Un:=
 Bc (by simp only[ES,Ab]; rfl) fun k=>by rw[Q3,jc,N6]; exact Pr _
noncomputable def WN:Nat→DS
 | 0=>fun _ _ _ _ _ _=>none
 | k+1=>dg (LN k (Un k))
theorem g8:Ds=WN:=
 Bc (by simp only[Ds,Ab]; rfl) fun k=>by rw[SL,cA]; exact YV _
noncomputable def ah:Nat→C7
 | 0=>fun _ _=>none
 | k+1=>df (Tz k )
theorem kE:IY=ah:=
 Bc (by simp only[IY,Ab]; rfl) fun k=>by rw[ga]; exact Fg _
noncomputable def WU:Nat→Az
 | 0=>fun _ _ _=>none
 | k+1=>K1 (Qs k (Kv k))
theorem gP:Hi=WU:=
 Bc (by simp only[Hi,Ab]; rfl) fun k=>by rw[bW,Mb]; exact Cq _
noncomputable def QT:Nat→DC
 | 0=>fun _ _ _ _ _=>none
 | k+1=>Xa (KI k (Pd k) (BV k) (ah k) (Ex k) (WU k))
theorem Yl:ED=QT:=
 Bc (by simp only[ED,Ab]; rfl) fun k=>by rw[Wm,Ud,Cg,kE,EK,gP]; exact Pr _
end
section
local instance kn1:Kn:=⟨false⟩
variable [AA]
noncomputable def fk:Nat→T_
 | 0=>fun  _=>none
 | k+1=>W_ (Xe k (pr k) (QP k) (PL k) (PM k) (QQ k) (Rx k) (QR k) (QS k) (Ry k) (QT k) (pv k) (je k) (lO k) (WN k))
theorem oL:GG=fk:=
 Bc (by simp only[GG,Ab]; rfl) fun k=>by rw[bL,vj,Yh,Xq,Xr,Yi,Zw,Yj,Yk,Zx,Yl,vm,qm,tK,g8]; exact Ahe _
end
end Go.Proofs.YtphkfdnecpacmaaGreat
