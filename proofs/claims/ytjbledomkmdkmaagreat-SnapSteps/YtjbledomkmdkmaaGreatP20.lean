/-
 PRINTED BY A PROGRAM OF THIS SESSION'S OWN (gen2.py): the functions that the examples reach, as definitions.
-/
import Derived.Test.YtjbledomkmdkmaaGreatP19
set_option maxRecDepth 100000
set_option linter.unusedVariables false
set_option linter.unusedSimpArgs false
set_option linter.unusedSectionVars false
namespace Go.Proofs.YtjbledomkmdkmaaGreat
open Go Go.AX
section
variable [A9] [Kn]
theorem Bb {β:Type} {d s:Nat→β} (h0:d 0=s 0) (h:∀ k,d (k+1)=s (k+1)):d=s:=funext fun k=>match k with
 | 0=>h0
 | k+1=>h k
theorem J2 {β:Type} {d s:Nat→Nat→β} (h0:∀ k,d k 0=s k 0) (h:∀ k n,d k n=s k n→d k (n+1)=s k (n+1)):d=s:=by
 funext k n; induction n with
 | zero=>exact h0 k
 | succ n ih=>exact h k n ih
def dx (f:Cz):Cz:=fun x0 σ=>fP x0 fun x0=>fL σ fun σ=>f x0 σ
theorem Fh (f:Cz):f=dx f:=by funext _ _; simp only[dx,Ad]
noncomputable def BV:Nat→Cz
 | 0=>fun _ _=>none
 | k+1=>dx (IB k )
theorem Ci:Ao=BV:=
 Bb (by simp only[Ao,Ab]; rfl) fun k=>by rw[Ob]; exact Fh _
noncomputable def Dt:Nat→Cz
 | 0=>fun _ _=>none
 | k+1=>dx (MO k )
theorem Dw:A7=Dt:=
 Bb (by simp only[A7,Ab]; rfl) fun k=>by rw[TW]; exact Fh _
noncomputable def Mh:Nat→Cz
 | 0=>fun _ _=>none
 | k+1=>dx (Mb k )
theorem Po:Db=Mh:=
 Bb (by simp only[Db,Ab]; rfl) fun k=>by rw[Ta]; exact Fh _
def K6 (f:Az):Az:=fun x0 x1 σ=>fP x0 fun x0=>fI x1 fun x1=>fL σ fun σ=>f x0 x1 σ
theorem Cr (f:Az):f=K6 f:=by funext _ _ _; simp only[K6,Ad]
noncomputable def Ng:Nat→Az
 | 0=>fun _ _ _=>none
 | k+1=>K6 (MV k (Mh k))
theorem Ri:Dr=Ng:=
 Bb (by simp only[Dr,Ab]; rfl) fun k=>by rw[Ue,Po]; exact Cr _
noncomputable def Hr:Nat→Cz
 | 0=>fun _ _=>none
 | k+1=>dx (Ma k )
theorem Iu:Bp=Hr:=
 Bb (by simp only[Bp,Ab]; rfl) fun k=>by rw[SZ]; exact Fh _
def iw (f:Pw):Pw:=fun x0 x1 x2 σ=>fP x0 fun x0=>fI x1 fun x1=>fI x2 fun x2=>fL σ fun σ=>f x0 x1 x2 σ
theorem Vb (f:Pw):f=iw f:=by funext _ _ _ _; simp only[iw,Ad]
noncomputable def Tt (k n:Nat):Pw:=Nat.rec (fun _ _ _ _=>none) (fun _ ih=>iw (Jq k (Ng k) ih)) n
theorem bp:D4=Tt:=
 J2 (fun k=>by simp only[D4,Ab]; rfl) fun k n ih=>by rw[PJ,Ri,ih]; exact Vb _
def W3 (f:Cj):Cj:=fun x0 x1 x2 σ=>fP x0 fun x0=>fI x1 fun x1=>fI x2 fun x2=>fL σ fun σ=>f x0 x1 x2 σ
theorem Ll (f:Cj):f=W3 f:=by funext _ _ _ _; simp only[W3,Ad]
noncomputable def QW:Nat→Cj
 | 0=>fun _ _ _ _=>none
 | k+1=>W3 (LZ k (Tt k) (Hr k))
theorem Wi:Da=QW:=
 Bb (by simp only[Da,Ab]; rfl) fun k=>by rw[SY,bp,Iu]; exact Ll _
def ta (f:ik):ik:=fun x0 x1 x2 x3 x4 σ=>fP x0 fun x0=>fI x1 fun x1=>fS x2 fun x2=>fI x3 fun x3=>fI x4 fun x4=>fL σ fun σ=>f x0 x1 x2 x3 x4 σ
theorem xd (f:ik):f=ta f:=by funext _ _ _ _ _ _; simp only[ta,Ad]
noncomputable def QR (k n:Nat):ik:=Nat.rec (fun _ _ _ _ _ _=>none) (fun _ ih=>ta (E6 k (QW k) ih)) n
theorem Yr:BB=QR:=
 J2 (fun k=>by simp only[BB,Ab]; rfl) fun k n ih=>by rw[Gp,Wi,ih]; exact xd _
noncomputable def NG:Nat→Cj
 | 0=>fun _ _ _ _=>none
 | k+1=>W3 (JN k (QR k) (QW k))
theorem Td:Dl=NG:=
 Bb (by simp only[Dl,Ab]; rfl) fun k=>by rw[Q2,Yr,Wi]; exact Ll _
noncomputable def OC:Nat→Cz
 | 0=>fun _ _=>none
 | k+1=>dx (On k (NG k) (Dt k))
theorem Sc:Bv=OC:=
 Bb (by simp only[Bv,Ab]; rfl) fun k=>by rw[Vq,Td,Dw]; exact Fh _
noncomputable def Pn:Nat→Az
 | 0=>fun _ _ _=>none
 | k+1=>K6 (KO k (Hr k))
theorem U0:D8=Pn:=
 Bb (by simp only[D8,Ab]; rfl) fun k=>by rw[Ry,Iu]; exact Cr _
noncomputable def Sm:Nat→Az
 | 0=>fun _ _ _=>none
 | k+1=>K6 (MT k (Ng k) (Pn k))
theorem Xh:CQ=Sm:=
 Bb (by simp only[CQ,Ab]; rfl) fun k=>by rw[Uc,Ri,U0]; exact Cr _
noncomputable def Gj:Nat→Az
 | 0=>fun _ _ _=>none
 | k+1=>K6 (Oo k (Dt k) (Sm k))
theorem GG:AJ=Gj:=
 Bb (by simp only[AJ,Ab]; rfl) fun k=>by rw[Vr,Dw,Xh]; exact Cr _
noncomputable def Lh:Nat→Az
 | 0=>fun _ _ _=>none
 | k+1=>K6 (KK k (Gj k) (Dt k))
theorem NA:Bd=Lh:=
 Bb (by simp only[Bd,Ab]; rfl) fun k=>by rw[Rv,GG,Dw]; exact Cr _
def W_i (f:lg):lg:=fun x0 σ=>fI x0 fun x0=>fL σ fun σ=>f x0 σ
theorem sV (f:lg):f=W_i f:=by funext _ _; simp only[W_i,Ad]
noncomputable def UM:Nat→lg
 | 0=>fun _ _=>none
 | k+1=>W_i (U5 k )
theorem X1:FI=UM:=
 Bb (by simp only[FI,Ab]; rfl) fun k=>by rw[aa]; exact sV _
noncomputable def Hq:Nat→Az
 | 0=>fun _ _ _=>none
 | k+1=>K6 (Jh k (Lh k) (UM k))
theorem It:AE=Hq:=
 Bb (by simp only[AE,Ab]; rfl) fun k=>by rw[Mr,NA,X1]; exact Cr _
def wW (f:bE):bE:=fun x0 x1 x2 x3 σ=>fP x0 fun x0=>fI x1 fun x1=>fI x2 fun x2=>fB x3 fun x3=>fL σ fun σ=>f x0 x1 x2 x3 σ
theorem zU (f:bE):f=wW f:=by funext _ _ _ _ _; simp only[wW,Ad]
noncomputable def QT:Nat→bE
 | 0=>fun _ _ _ _ _=>none
 | k+1=>wW (LS k (Lh k) (UM k))
theorem VI:CW=QT:=
 Bb (by simp only[CW,Ab]; rfl) fun k=>by rw[SQ,NA,X1]; exact zU _
noncomputable def Gk:Nat→Cj
 | 0=>fun _ _ _ _=>none
 | k+1=>W3 (Oq k (QT k))
theorem GH:AA=Gk:=
 Bb (by simp only[AA,Ab]; rfl) fun k=>by rw[Vs,VI]; exact Ll _
def Af5 (f:uM):uM:=fun x0 x1 σ=>fI x0 fun x0=>fP x1 fun x1=>fL σ fun σ=>f x0 x1 σ
theorem yN (f:uM):f=Af5 f:=by funext _ _ _; simp only[Af5,Ad]
noncomputable def XA:Nat→uM
 | 0=>fun _ _ _=>none
 | k+1=>Af5 (Sy k (Gj k))
theorem dm:Ex=XA:=
 Bb (by simp only[Ex,Ab]; rfl) fun k=>by rw[Yh,GG]; exact yN _
theorem mP (k:Nat) (x0:Int) (c0:Option Addr) (σ:Aa):fn P (XK Kn.b) H k 166 [.int .i64 x0,.pointer c0] σ=Ex k x0 c0 σ:=by
 simp only[Ex,Ab]
noncomputable def Oj:Nat→Az
 | 0=>fun _ _ _=>none
 | k+1=>K6 (Sz k (Sm k))
theorem Rn:Cn=Oj:=
 Bb (by simp only[Cn,Ab]; rfl) fun k=>by rw[Yj,Xh]; exact Cr _
noncomputable def OD:Nat→Az
 | 0=>fun _ _ _=>none
 | k+1=>K6 (OA k (Gj k) (Oj k))
theorem Ss:B8=OD:=
 Bb (by simp only[B8,Ab]; rfl) fun k=>by rw[VC,GG,Rn]; exact Cr _
theorem j7 (k:Nat) (x0:Option Addr) (x1:Int) (σ:Aa):fn P (XK Kn.b) H k 266 [.pointer x0,.int .i64 x1] σ=B8 k x0 x1 σ:=by
 simp only[B8,Ab]
noncomputable def Wc:Nat→Az
 | 0=>fun _ _ _=>none
 | k+1=>K6 (KP k (Mh k))
theorem eJ:Fw=Wc:=
 Bb (by simp only[Fw,Ab]; rfl) fun k=>by rw[Rz,Po]; exact Cr _
noncomputable def R4:Nat→uM
 | 0=>fun _ _ _=>none
 | k+1=>Af5 (I8 k (Wc k))
theorem ZP:C8=R4:=
 Bb (by simp only[C8,Ab]; rfl) fun k=>by rw[NY,eJ]; exact yN _
theorem YN (k:Nat) (x0:Int) (c0:Option Addr) (σ:Aa):fn P (XK Kn.b) H k 288 [.int .i64 x0,.pointer c0] σ=C8 k x0 c0 σ:=by
 simp only[C8,Ab]
noncomputable def WU (k:Nat) (n:FuncId) (l:List Value) (σ:Aa):Option (Value × Aa):=
 if n=166 then (match l with
  | [.int .i64 y1,.pointer y2]=>XA k y1 y2 σ
  | l=>fn P (XK Kn.b) H k 166 l σ) else
 if n=266 then (match l with
  | [.pointer y1,.int .i64 y2]=>OD k y1 y2 σ
  | l=>fn P (XK Kn.b) H k 266 l σ) else
 if n=288 then (match l with
  | [.int .i64 y1,.pointer y2]=>R4 k y1 y2 σ
  | l=>fn P (XK Kn.b) H k 288 l σ) else
 fn P (XK Kn.b) H k n l σ
theorem tu (k:Nat) (n:FuncId) (l:List Value) (σ:Aa):fn P (XK Kn.b) H k n l σ=WU k n l σ:=by
 unfold WU
 split
 ·rename_i hn; subst hn
  split
  ·rw[mP,dm]
  ·rfl
 split
 ·rename_i hn; subst hn
  split
  ·rw[j7,Ss]
  ·rfl
 split
 ·rename_i hn; subst hn
  split
  ·rw[YN,ZP]
  ·rfl
 rfl
noncomputable def WV (k:Nat) (f:Value) (args:List Value) (σ:Aa):Option (Value × Aa):=match f with
 | .func (.func n) first cap=>bif Nat.beq n YF then none else WU k n (first.toList++args++cap.toList) σ
 | .func (.yield h) _ _=>fn P (XK Kn.b) H k YF (.pointer (some ⟨h,0,none⟩)::args) σ
 | .func (.method nm) first _=>(match first.toList++args with
   | .iface t v::rest=>(UH P t nm).bind fun n=>bif Nat.beq n YF then none else WU k n (v::rest) σ
   | _=>none)
 | _=>none
theorem iB:F6=WV:=by
 funext k f args σ
 simp only[F6,Ab]
 unfold ID WV
 simp only[tu]
 rfl
def iz (f:UZ):UZ:=fun x0 x1 x2 x3 x4 x5 σ=>fP x0 fun x0=>fN x1 fun x1=>fN x2 fun x2=>fI x4 fun x4=>fI x5 fun x5=>fL σ fun σ=>f x0 x1 x2 x3 x4 x5 σ
theorem lB (f:UZ):f=iz f:=by funext _ _ _ _ _ _ _; simp only[iz,Ad]
noncomputable def Nv (k n:Nat):UZ:=Nat.rec (fun _ _ _ _ _ _ _=>none) (fun _ ih=>iz (CK k (WV k) ih)) n
theorem Wj:Cb=Nv:=
 J2 (fun k=>by simp only[Cb,Ab]; rfl) fun k n ih=>by rw[DE,iB,ih]; exact lB _
def wV (f:Zf):Zf:=fun x0 x1 σ=>fS x0 fun x0=>fL σ fun σ=>f x0 x1 σ
theorem ir (f:Zf):f=wV f:=by funext _ _ _; simp only[wV,Ad]
noncomputable def QX:Nat→Zf
 | 0=>fun _ _ _=>none
 | k+1=>wV (FF k (Nv k))
theorem YO:EE=QX:=
 Bb (by simp only[EE,Ab]; rfl) fun k=>by rw[IQ,Wj]; exact ir _
noncomputable def IV:Nat→Zf
 | 0=>fun _ _ _=>none
 | k+1=>wV (EN k (QX k))
theorem MF:B5=IV:=
 Bb (by simp only[B5,Ab]; rfl) fun k=>by rw[Hu,YO]; exact ir _
noncomputable def Li:Nat→Cz
 | 0=>fun _ _=>none
 | k+1=>dx (KM k )
theorem NC:Bo=Li:=
 Bb (by simp only[Bo,Ab]; rfl) fun k=>by rw[Rw]; exact Fh _
noncomputable def Xb:Nat→Cz
 | 0=>fun _ _=>none
 | k+1=>dx (LW k )
theorem gM:Hk=Xb:=
 Bb (by simp only[Hk,Ab]; rfl) fun k=>by rw[SV]; exact Fh _
def oc (f:bB):bB:=fun x0 x1 x2 x3 x4 x5 σ=>fP x0 fun x0=>fN x1 fun x1=>fN x2 fun x2=>fI x3 fun x3=>fI x4 fun x4=>fI x5 fun x5=>fL σ fun σ=>f x0 x1 x2 x3 x4 x5 σ
theorem uU (f:bB):f=oc f:=by funext _ _ _ _ _ _ _; simp only[oc,Ad]
noncomputable def R5 (k n:Nat):bB:=Nat.rec (fun _ _ _ _ _ _ _=>none) (fun _ ih=>oc (Fa k  ih)) n
theorem ZR:Di=R5:=
 J2 (fun k=>by simp only[Di,Ab]; rfl) fun k n ih=>by rw[GQ,ih]; exact uU _
def Af6 (f:qp):qp:=fun x0 x1 σ=>fS x0 fun x0=>fI x1 fun x1=>fL σ fun σ=>f x0 x1 σ
theorem yO (f:qp):f=Af6 f:=by funext _ _ _; simp only[Af6,Ad]
noncomputable def Wd:Nat→qp
 | 0=>fun _ _ _=>none
 | k+1=>Af6 (Ih k (R5 k))
theorem eK:GB=Wd:=
 Bb (by simp only[GB,Ab]; rfl) fun k=>by rw[LF,ZR]; exact yO _
noncomputable def LO:Nat→qp
 | 0=>fun _ _ _=>none
 | k+1=>Af6 (Gr k (Wd k))
theorem Rj:Bk=LO:=
 Bb (by simp only[Bk,Ab]; rfl) fun k=>by rw[JF,eK]; exact yO _
noncomputable def QM (k:Nat) (n:FuncId) (l:List Value) (σ:Aa):Option (Value × Aa):=
 fn P (XK Kn.b) H k n l σ
theorem m8 (k:Nat) (n:FuncId) (l:List Value) (σ:Aa):fn P (XK Kn.b) H k n l σ=QM k n l σ:=by
 unfold QM
 rfl
noncomputable def LN (k:Nat) (h:Nat) (qh0:Nat) (z0_0:Int) (z0_1:Int) (z0_2:Int) (z1:Option Addr) (σ:Aa):Bw:=
 fN h fun h=>fN qh0 fun qh0=>fI z0_0 fun z0_0=>fI z0_1 fun z0_1=>fI z0_2 fun z0_2=>fP z1 fun z1=>fL σ fun σ=>EZ k (LO k) h qh0 z0_0 z0_1 z0_2 z1 σ
theorem ZI (k:Nat) (h:Nat) (qh0:Nat) (z0_0:Int) (z0_1:Int) (z0_2:Int) (z1:Option Addr) (σ:Aa):EZ k (Bk k) h qh0 z0_0 z0_1 z0_2 z1 σ=LN k h qh0 z0_0 z0_1 z0_2 z1 σ:=by
 simp only[LN,Ad,Rj]
noncomputable def Wa (k:Nat) (h:Nat) (args:List Value) (σ:Aa):Bw:=match k with
 | 0=>none
 | k+1=>match σ[h]? with
   | some (.loop f .ready regs)=>
     if f=168 then (match regs,args with
      | [none,none,none,some (.pointer (some ⟨y1,0,none⟩)),none,none,none,none,none,none,none,none,none,none,none,none,none,none,none,none,none,none,none,none,none,none],[.agg ⟨[.int .i64 y2,.int .i64 y3,.int .i64 y4]⟩,.pointer y5]=>LN k h y1 y2 y3 y4 y5 σ
      | _,_=>fn P (XK Kn.b) H (k+1) YF (.pointer (some ⟨h,0,none⟩)::args) σ) else
     fn P (XK Kn.b) H (k+1) YF (.pointer (some ⟨h,0,none⟩)::args) σ
   | _=>fn P (XK Kn.b) H (k+1) YF (.pointer (some ⟨h,0,none⟩)::args) σ
theorem mE (k h:Nat) (args:List Value) (σ:Aa):GY k (.func (.yield h) #[] #[]) args σ=fn P (XK Kn.b) H k YF (.pointer (some ⟨h,0,none⟩)::args) σ:=by
 simp only[GY,Ab]; rfl
theorem mF (k:Nat) (h:Nat) (args:List Value) (σ:Aa):fn P (XK Kn.b) H k YF (.pointer (some ⟨h,0,none⟩)::args) σ=Wa k h args σ:=by
 cases k with
 | zero=>rfl
 | succ k=>
   unfold Wa
   dsimp only
   split
   rotate_left
   ·rfl
   rename_i hσ
   split
   ·rename_i hn; subst hn
    split
    ·exact ((mE _ _ _ σ).symm.trans (Jr k _ _ _ _ _ _ σ hσ)).trans (ZI k _ _ _ _ _ _ σ)
    ·rfl
   rfl
noncomputable def VZ (k:Nat) (f:Value) (args:List Value) (σ:Aa):Option (Value × Aa):=match f with
 | .func (.func n) first cap=>bif Nat.beq n YF then none else QM k n (first.toList++args++cap.toList) σ
 | .func (.yield h) _ _=>Wa k h args σ
 | .func (.method nm) first _=>(match first.toList++args with
   | .iface t v::rest=>(UH P t nm).bind fun n=>bif Nat.beq n YF then none else QM k n (v::rest) σ
   | _=>none)
 | _=>none
theorem mB:GY=VZ:=by
 funext k f args σ
 simp only[GY,Ab]
 unfold ID VZ
 simp only[mF]
 simp only[m8]
 rfl
def jQ (f:XT):XT:=fun x0 x1 x2 x3 x4 x5 x6 σ=>fI x1 fun x1=>fP x2 fun x2=>fN x3 fun x3=>fN x4 fun x4=>fI x5 fun x5=>fI x6 fun x6=>fL σ fun σ=>f x0 x1 x2 x3 x4 x5 x6 σ
theorem tj (f:XT):f=jQ f:=by funext _ _ _ _ _ _ _ _; simp only[jQ,Ad]
noncomputable def PS (k n:Nat):XT:=Nat.rec (fun _ _ _ _ _ _ _ _=>none) (fun _ ih=>jQ (Fz k (VZ k) ih)) n
theorem X8:CA=PS:=
 J2 (fun k=>by simp only[CA,Ab]; rfl) fun k n ih=>by rw[Ir,mB,ih]; exact tj _
def xg (f:nz):nz:=fun x0 x1 x2 x3 σ=>fN x1 fun x1=>fI x2 fun x2=>fI x3 fun x3=>fL σ fun σ=>f x0 x1 x2 x3 σ
theorem Aaa (f:nz):f=xg f:=by funext _ _ _ _ _; simp only[xg,Ad]
noncomputable def PR (k n:Nat):nz:=Nat.rec (fun _ _ _ _ _=>none) (fun _ ih=>xg (Dq k (PS k) ih)) n
theorem X7:C9=PR:=
 J2 (fun k=>by simp only[C9,Ab]; rfl) fun k n ih=>by rw[Eo,X8,ih]; exact Aaa _
def Aiv (f:Ac0):Ac0:=fun x0 x1 σ=>fP x1 fun x1=>fL σ fun σ=>f x0 x1 σ
theorem Agb (f:Ac0):f=Aiv f:=by funext _ _ _; simp only[Aiv,Ad]
noncomputable def Tn:Nat→Ac0
 | 0=>fun _ _ _=>none
 | k+1=>Aiv (Jo k (PR k))
theorem bg:D0=Tn:=
 Bb (by simp only[D0,Ab]; rfl) fun k=>by rw[PG,X7]; exact Agb _
theorem ZJ (k:Nat) (x0:Value) (c0:Option Addr) (σ:Aa):fn P (XK Kn.b) H k 244 [x0,.pointer c0] σ=D0 k x0 c0 σ:=by
 simp only[D0,Ab]
noncomputable def WT (k:Nat) (n:FuncId) (l:List Value) (σ:Aa):Option (Value × Aa):=
 if n=244 then (match l with
  | [y1,.pointer y2]=>Tn k y1 y2 σ
  | l=>fn P (XK Kn.b) H k 244 l σ) else
 fn P (XK Kn.b) H k n l σ
theorem tt (k:Nat) (n:FuncId) (l:List Value) (σ:Aa):fn P (XK Kn.b) H k n l σ=WT k n l σ:=by
 unfold WT
 split
 ·rename_i hn; subst hn
  split
  ·rw[ZJ,bg]
  ·rfl
 rfl
noncomputable def cX (k:Nat) (f:Value) (args:List Value) (σ:Aa):Option (Value × Aa):=match f with
 | .func (.func n) first cap=>bif Nat.beq n YF then none else WT k n (first.toList++args++cap.toList) σ
 | .func (.yield h) _ _=>fn P (XK Kn.b) H k YF (.pointer (some ⟨h,0,none⟩)::args) σ
 | .func (.method nm) first _=>(match first.toList++args with
   | .iface t v::rest=>(UH P t nm).bind fun n=>bif Nat.beq n YF then none else WT k n (v::rest) σ
   | _=>none)
 | _=>none
theorem tv:PA=cX:=by
 funext k f args σ
 simp only[PA,Ab]
 unfold ID cX
 simp only[tt]
 rfl
noncomputable def NH:Nat→Cz
 | 0=>fun _ _=>none
 | k+1=>dx (JR k (cX k) (Xb k) (Li k))
theorem Th:Cc=NH:=
 Bb (by simp only[Cc,Ab]; rfl) fun k=>by rw[Q7,tv,gM,NC]; exact Fh _
def wY (f:nv):nv:=fun x0 x1 x2 x3 σ=>fN x0 fun x0=>fI x1 fun x1=>fI x2 fun x2=>fI x3 fun x3=>fL σ fun σ=>f x0 x1 x2 x3 σ
theorem zW (f:nv):f=wY f:=by funext _ _ _ _ _; simp only[wY,Ad]
noncomputable def fT (k n:Nat):nv:=Nat.rec (fun _ _ _ _ _=>none) (fun _ ih=>wY (NO k (Gk k) (XA k) ih)) n
theorem pT:HQ=fT:=
 J2 (fun k=>by simp only[HQ,Ab]; rfl) fun k n ih=>by rw[Sb,GH,dm,ih]; exact zW _
def nX (f:bw):bw:=fun x0 x1 x2 x3 x4 x5 σ=>fN x0 fun x0=>fP x1 fun x1=>fN x2 fun x2=>fN x3 fun x3=>fI x4 fun x4=>fI x5 fun x5=>fL σ fun σ=>f x0 x1 x2 x3 x4 x5 σ
theorem uS (f:bw):f=nX f:=by funext _ _ _ _ _ _ _; simp only[nX,Ad]
noncomputable def fQ (k n:Nat):bw:=Nat.rec (fun _ _ _ _ _ _ _=>none) (fun _ ih=>nX (NN k (Hq k) (fT k) ih)) n
theorem pS:HP=fQ:=
 J2 (fun k=>by simp only[HP,Ab]; rfl) fun k n ih=>by rw[Sa,It,pT,ih]; exact uS _
def Aga (f:mw):mw:=fun x0 x1 σ=>fP x0 fun x0=>fP x1 fun x1=>fL σ fun σ=>f x0 x1 σ
theorem yQ (f:mw):f=Aga f:=by funext _ _ _; simp only[Aga,Ad]
noncomputable def pJ:Nat→mw
 | 0=>fun _ _ _=>none
 | k+1=>Aga (Zq k (OC k) (NH k) (IV k) (fQ k))
theorem wD:Mx=pJ:=
 Bb (by simp only[Mx,Ab]; rfl) fun k=>by rw[fk,Sc,Th,MF,pS]; exact yQ _
noncomputable def Ey:Nat→Cz
 | 0=>fun _ _=>none
 | k+1=>dx (O7 k )
theorem EL:A8=Ey:=
 Bb (by simp only[A8,Ab]; rfl) fun k=>by rw[V9]; exact Fh _
def Ac8 (f:nU):nU:=fun x0 x1 x2 σ=>fP x0 fun x0=>fI x1 fun x1=>fS x2 fun x2=>fL σ fun σ=>f x0 x1 x2 σ
theorem Ac9 (f:nU):f=Ac8 f:=by funext _ _ _ _; simp only[Ac8,Ad]
noncomputable def Pm:Nat→nU
 | 0=>fun _ _ _ _=>none
 | k+1=>Ac8 (KN k (Hr k) (Pn k) (IV k))
theorem Uz:D7=Pm:=
 Bb (by simp only[D7,Ab]; rfl) fun k=>by rw[Rx,Iu,U0,MF]; exact Ac9 _
noncomputable def So:Nat→Cj
 | 0=>fun _ _ _ _=>none
 | k+1=>W3 (MW k (Mh k))
theorem Xi:ED=So:=
 Bb (by simp only[ED,Ab]; rfl) fun k=>by rw[Uf,Po]; exact Ll _
noncomputable def Nf:Nat→Cj
 | 0=>fun _ _ _ _=>none
 | k+1=>W3 (MU k (Pm k) (So k))
theorem Rh:Br=Nf:=
 Bb (by simp only[Br,Ab]; rfl) fun k=>by rw[Ud,Uz,Xi]; exact Ll _
noncomputable def Nh:Nat→Cj
 | 0=>fun _ _ _ _=>none
 | k+1=>W3 (Na k (Nf k))
theorem Ro:Cp=Nh:=
 Bb (by simp only[Cp,Ab]; rfl) fun k=>by rw[Uj,Rh]; exact Ll _
noncomputable def K1:Nat→Az
 | 0=>fun _ _ _=>none
 | k+1=>K6 (MY k (Gj k) (Oj k) (Nh k))
theorem Mi:Bs=K1:=
 Bb (by simp only[Bs,Ab]; rfl) fun k=>by rw[Uh,GG,Rn,Ro]; exact Cr _
def Vc (f:JY):JY:=fun x0 x1 x2 x3 x4 x5 σ=>fP x0 fun x0=>fP x1 fun x1=>fN x2 fun x2=>fN x3 fun x3=>fI x4 fun x4=>fI x5 fun x5=>fL σ fun σ=>f x0 x1 x2 x3 x4 x5 σ
theorem SH (f:JY):f=Vc f:=by funext _ _ _ _ _ _ _; simp only[Vc,Ad]
noncomputable def Tv (k n:Nat):JY:=Nat.rec (fun _ _ _ _ _ _ _=>none) (fun _ ih=>Vc (GX k (K1 k) ih)) n
theorem bu:D5=Tv:=
 J2 (fun k=>by simp only[D5,Ab]; rfl) fun k n ih=>by rw[Kt,Mi,ih]; exact SH _
noncomputable def Rd:Nat→Cz
 | 0=>fun _ _=>none
 | k+1=>dx (Mc k (NH k) (Tv k))
theorem Wm:Dv=Rd:=
 Bb (by simp only[Dv,Ab]; rfl) fun k=>by rw[Tb,Th,bu]; exact Fh _
noncomputable def YK:Nat→Cz
 | 0=>fun _ _=>none
 | k+1=>dx (MZ k (pJ k) (Ey k) (Rd k))
theorem j5:GD=YK:=
 Bb (by simp only[GD,Ab]; rfl) fun k=>by rw[Ui,wD,EL,Wm]; exact Fh _
noncomputable def Rb:Nat→Cz
 | 0=>fun _ _=>none
 | k+1=>dx (HC k (BV k) (YK k))
theorem YS:BF=Rb:=
 Bb (by simp only[BF,Ab]; rfl) fun k=>by rw[Np,Ci,j5]; exact Fh _
def W_l (f:T_l):T_l:=fun x0 σ=>fS x0 fun x0=>fL σ fun σ=>f x0 σ
theorem Air (f:T_l):f=W_l f:=by funext _ _; simp only[W_l,Ad]
noncomputable def Lj:Nat→T_l
 | 0=>fun _ _=>none
 | k+1=>W_l (KQ k )
theorem NI:Be=Lj:=
 Bb (by simp only[Be,Ab]; rfl) fun k=>by rw[R1]; exact Air _
def uQ (f:GS):GS:=fun x0 x1 x2 σ=>fI x0 fun x0=>fI x1 fun x1=>fI x2 fun x2=>fL σ fun σ=>f x0 x1 x2 σ
theorem nW (f:GS):f=uQ f:=by funext _ _ _ _; simp only[uQ,Ad]
noncomputable def QU:Nat→GS
 | 0=>fun _ _ _ _=>none
 | k+1=>uQ (U3 k )
theorem S9:EB=QU:=
 Bb (by simp only[EB,Ab]; rfl) fun k=>by rw[ZY]; exact nW _
noncomputable def UL:Nat→GS
 | 0=>fun _ _ _ _=>none
 | k+1=>uQ (U4 k (QU k))
theorem X0:FH=UL:=
 Bb (by simp only[FH,Ab]; rfl) fun k=>by rw[ZZ,S9]; exact nW _
noncomputable def Ky:Nat→Az
 | 0=>fun _ _ _=>none
 | k+1=>K6 (MP k (UL k) (UM k))
theorem Me:BP=Ky:=
 Bb (by simp only[BP,Ab]; rfl) fun k=>by rw[TX,X0,X1]; exact Cr _
noncomputable def YE:Nat→Cj
 | 0=>fun _ _ _ _=>none
 | k+1=>W3 (MR k )
theorem iU:G3=YE:=
 Bb (by simp only[G3,Ab]; rfl) fun k=>by rw[TZ]; exact Ll _
noncomputable def YB:Nat→Az
 | 0=>fun _ _ _=>none
 | k+1=>K6 (ML k (Lh k) (Ky k) (YE k) (Nf k))
theorem iR:DK=YB:=
 Bb (by simp only[DK,Ab]; rfl) fun k=>by rw[TS,NA,Me,iU,Rh]; exact Cr _
noncomputable def H6:Nat→Az
 | 0=>fun _ _ _=>none
 | k+1=>K6 (H0 k (NG k) (Dt k))
theorem J1:Ba=H6:=
 Bb (by simp only[Ba,Ab]; rfl) fun k=>by rw[KW,Td,Dw]; exact Cr _
noncomputable def Mg:Nat→Az
 | 0=>fun _ _ _=>none
 | k+1=>K6 (LU k (Dt k))
theorem Ph:CX=Mg:=
 Bb (by simp only[CX,Ab]; rfl) fun k=>by rw[SR,Dw]; exact Cr _
def Ac6 (f:lh):lh:=fun x0 x1 x2 σ=>fP x0 fun x0=>fI x1 fun x1=>fB x2 fun x2=>fL σ fun σ=>f x0 x1 x2 σ
theorem Ac7 (f:lh):f=Ac6 f:=by funext _ _ _ _; simp only[Ac6,Ad]
noncomputable def YD:Nat→lh
 | 0=>fun _ _ _ _=>none
 | k+1=>Ac6 (MN k (Dt k) (Mg k))
theorem iT:G2=YD:=
 Bb (by simp only[G2,Ab]; rfl) fun k=>by rw[TU,Dw,Ph]; exact Ac7 _
noncomputable def Uu (k n:Nat):Pw:=Nat.rec (fun _ _ _ _=>none) (fun _ ih=>iw (H3 k  ih)) n
theorem cz:DN=Uu:=
 J2 (fun k=>by simp only[DN,Ab]; rfl) fun k n ih=>by rw[KY,ih]; exact Vb _
noncomputable def Sk:Nat→Az
 | 0=>fun _ _ _=>none
 | k+1=>K6 (MQ k (Uu k))
theorem WI:EA=Sk:=
 Bb (by simp only[EA,Ab]; rfl) fun k=>by rw[TY,cz]; exact Cr _
noncomputable def QO (k n:Nat):Pw:=Nat.rec (fun _ _ _ _=>none) (fun _ ih=>iw (FC k  ih)) n
theorem Yq:CU=QO:=
 J2 (fun k=>by simp only[CU,Ab]; rfl) fun k n ih=>by rw[IP,ih]; exact Vb _
noncomputable def Us:Nat→Az
 | 0=>fun _ _ _=>none
 | k+1=>K6 (JM k (H6 k) (QO k) (YD k) (Sk k))
theorem cx:DM=Us:=
 Bb (by simp only[DM,Ab]; rfl) fun k=>by rw[Q0,J1,Yq,iT,WI]; exact Cr _
noncomputable def To:Nat→Cz
 | 0=>fun _ _=>none
 | k+1=>dx (Jp k (Hr k))
theorem bh:CZ=To:=
 Bb (by simp only[CZ,Ab]; rfl) fun k=>by rw[PH,Iu]; exact Fh _
def mX (f:W1):W1:=fun x0 x1 x2 x3 x4 σ=>fP x0 fun x0=>fI x1 fun x1=>fI x2 fun x2=>fI x3 fun x3=>fI x4 fun x4=>fL σ fun σ=>f x0 x1 x2 x3 x4 σ
theorem nY (f:W1):f=mX f:=by funext _ _ _ _ _ _; simp only[mX,Ad]
noncomputable def Tp (k n:Nat):W1:=Nat.rec (fun _ _ _ _ _ _=>none) (fun _ ih=>mX (GV k (So k) ih)) n
theorem bj:D2=Tp:=
 J2 (fun k=>by simp only[D2,Ab]; rfl) fun k n ih=>by rw[Kp,Xi,ih]; exact nY _
def Va (f:Dp):Dp:=fun x0 x1 x2 x3 σ=>fP x0 fun x0=>fI x1 fun x1=>fI x2 fun x2=>fI x3 fun x3=>fL σ fun σ=>f x0 x1 x2 x3 σ
theorem MI (f:Dp):f=Va f:=by funext _ _ _ _ _; simp only[Va,Ad]
noncomputable def Xc:Nat→Dp
 | 0=>fun _ _ _ _ _=>none
 | k+1=>Va (LX k (Tp k) (Pm k))
theorem gT:DZ=Xc:=
 Bb (by simp only[DZ,Ab]; rfl) fun k=>by rw[SW,bj,Uz]; exact MI _
noncomputable def Ux (k n:Nat):JY:=Nat.rec (fun _ _ _ _ _ _ _=>none) (fun _ ih=>Vc (H4 k (YB k) (Oj k) ih)) n
theorem dq:Dn=Ux:=
 J2 (fun k=>by simp only[Dn,Ab]; rfl) fun k n ih=>by rw[Lc,iR,Rn,ih]; exact SH _
noncomputable def YL:Nat→Cz
 | 0=>fun _ _=>none
 | k+1=>dx (Nb k (H6 k) (Us k) (To k) (Xc k) (Lj k) (Ux k))
theorem j8:GF=YL:=
 Bb (by simp only[GF,Ab]; rfl) fun k=>by rw[Uk,J1,cx,bh,gT,NI,dq]; exact Fh _
def Ac1 (f:jG):jG:=fun x0 x1 σ=>fI x0 fun x0=>fI x1 fun x1=>fL σ fun σ=>f x0 x1 σ
theorem sW (f:jG):f=Ac1 f:=by funext _ _ _; simp only[Ac1,Ad]
noncomputable def ZM:Nat→jG
 | 0=>fun _ _ _=>none
 | k+1=>Ac1 (UA k )
theorem fD:GP=ZM:=
 Bb (by simp only[GP,Ab]; rfl) fun k=>by rw[ak]; exact sW _
def sZ (f:ij):ij:=fun x0 x1 x2 x3 x4 σ=>fP x0 fun x0=>fI x1 fun x1=>fI x2 fun x2=>fS x3 fun x3=>fI x4 fun x4=>fL σ fun σ=>f x0 x1 x2 x3 x4 σ
theorem xa (f:ij):f=sZ f:=by funext _ _ _ _ _ _; simp only[sZ,Ad]
noncomputable def ay (k n:Nat):ij:=Nat.rec (fun _ _ _ _ _ _=>none) (fun _ ih=>sZ (Lo k (Gk k) ih)) n
theorem kD:Gf=ay:=
 J2 (fun k=>by simp only[Gf,Ab]; rfl) fun k n ih=>by rw[Pe,GH,ih]; exact xa _
noncomputable def jt:Nat→Az
 | 0=>fun _ _ _=>none
 | k+1=>K6 (U9 k (Hq k) (ay k))
theorem qP:Jv=jt:=
 Bb (by simp only[Jv,Ab]; rfl) fun k=>by rw[aj,It,kD]; exact Cr _
def jJ (f:XM):XM:=fun x0 x1 x2 x3 x4 x5 x6 σ=>fN x0 fun x0=>fP x1 fun x1=>fN x2 fun x2=>fN x3 fun x3=>fI x4 fun x4=>fS x5 fun x5=>fI x6 fun x6=>fL σ fun σ=>f x0 x1 x2 x3 x4 x5 x6 σ
theorem sY (f:XM):f=jJ f:=by funext _ _ _ _ _ _ _ _; simp only[jJ,Ad]
noncomputable def WZ (k n:Nat):XM:=Nat.rec (fun _ _ _ _ _ _ _ _=>none) (fun _ ih=>jJ (Jl k (ZM k) ih)) n
theorem gI:DY=WZ:=
 J2 (fun k=>by simp only[DY,Ab]; rfl) fun k n ih=>by rw[Mw,fD,ih]; exact sY _
noncomputable def cY:Nat→Az
 | 0=>fun _ _ _=>none
 | k+1=>K6 (Ql k (Hq k) (jt k) (WZ k))
theorem mN:GZ=cY:=
 Bb (by simp only[GZ,Ab]; rfl) fun k=>by rw[WA,It,qP,gI]; exact Cr _
noncomputable def DB:Nat→Cz
 | 0=>fun _ _=>none
 | k+1=>dx (KI k (Dt k))
theorem DO:Av=DB:=
 Bb (by simp only[Av,Ab]; rfl) fun k=>by rw[Rt,Dw]; exact Fh _
noncomputable def QQ:Nat→Az
 | 0=>fun _ _ _=>none
 | k+1=>K6 (Jj k (DB k))
theorem VG:AY=QQ:=
 Bb (by simp only[AY,Ab]; rfl) fun k=>by rw[Mt,DO]; exact Cr _
noncomputable def ZL:Nat→Az
 | 0=>fun _ _ _=>none
 | k+1=>K6 (U8 k (Hq k))
theorem fC:GO=ZL:=
 Bb (by simp only[GO,Ab]; rfl) fun k=>by rw[ai,It]; exact Cr _
def jP (f:XS):XS:=fun x0 x1 x2 x3 x4 x5 x6 σ=>fP x0 fun x0=>fP x1 fun x1=>fN x2 fun x2=>fN x3 fun x3=>fI x4 fun x4=>fS x5 fun x5=>fI x6 fun x6=>fL σ fun σ=>f x0 x1 x2 x3 x4 x5 x6 σ
theorem ti (f:XS):f=jP f:=by funext _ _ _ _ _ _ _ _; simp only[jP,Ad]
noncomputable def Oh (k n:Nat):XS:=Nat.rec (fun _ _ _ _ _ _ _ _=>none) (fun _ ih=>jP (Fi k (Gk k) (ZL k) (OD k) ih)) n
theorem Wz:BG=Oh:=
 J2 (fun k=>by simp only[BG,Ab]; rfl) fun k n ih=>by rw[HD,GH,fC,Ss,ih]; exact ti _
noncomputable def Oi (k n:Nat):JY:=Nat.rec (fun _ _ _ _ _ _ _=>none) (fun _ ih=>Vc (Fj k (K1 k) ih)) n
theorem W0:Cm=Oi:=
 J2 (fun k=>by simp only[Cm,Ab]; rfl) fun k n ih=>by rw[HE,Mi,ih]; exact SH _
noncomputable def R8:Nat→Cz
 | 0=>fun _ _=>none
 | k+1=>dx (IC k (OC k) (Oh k) (Oi k))
theorem ZW:DS=R8:=
 Bb (by simp only[DS,Ab]; rfl) fun k=>by rw[Oc,Sc,Wz,W0]; exact Fh _
noncomputable def Pk:Nat→Dp
 | 0=>fun _ _ _ _ _=>none
 | k+1=>Va (KJ k (Gj k) (QT k))
theorem Um:Cv=Pk:=
 Bb (by simp only[Cv,Ab]; rfl) fun k=>by rw[Ru,GG,VI]; exact MI _
def oa (f:bA):bA:=fun x0 x1 x2 x3 x4 x5 σ=>fP x0 fun x0=>fI x1 fun x1=>fN x2 fun x2=>fI x3 fun x3=>fI x4 fun x4=>fI x5 fun x5=>fL σ fun σ=>f x0 x1 x2 x3 x4 x5 σ
theorem uT (f:bA):f=oa f:=by funext _ _ _ _ _ _ _; simp only[oa,Ad]
noncomputable def Wb (k n:Nat):bA:=Nat.rec (fun _ _ _ _ _ _ _=>none) (fun _ ih=>oa (Ig k (Gk k) (Pk k) (ZM k) ih)) n
theorem eE:Df=Wb:=
 J2 (fun k=>by simp only[Df,Ab]; rfl) fun k n ih=>by rw[LD,GH,Um,fD,ih]; exact uT _
def yP (f:iq):iq:=fun x0 x1 x2 σ=>fP x0 fun x0=>fI x1 fun x1=>fL σ fun σ=>f x0 x1 x2 σ
theorem uR (f:iq):f=yP f:=by funext _ _ _ _; simp only[yP,Ad]
noncomputable def ax:Nat→iq
 | 0=>fun _ _ _ _=>none
 | k+1=>yP (Ox k (WV k) (Gk k) (Hq k) (Wb k))
theorem kC:Ht=ax:=
 Bb (by simp only[Ht,Ab]; rfl) fun k=>by rw[Vx,iB,GH,It,eE]; exact uR _
noncomputable def fM:Nat→iq
 | 0=>fun _ _ _ _=>none
 | k+1=>yP (Sx k (ax k))
theorem pk:HL=fM:=
 Bb (by simp only[HL,Ab]; rfl) fun k=>by rw[Yf,kC]; exact uR _
noncomputable def Wf (k n:Nat):JY:=Nat.rec (fun _ _ _ _ _ _ _=>none) (fun _ ih=>Vc (Ij k (fM k) (OD k) ih)) n
theorem eU:Es=Wf:=
 J2 (fun k=>by simp only[Es,Ab]; rfl) fun k n ih=>by rw[LI,pk,Ss,ih]; exact SH _
noncomputable def Wg (k n:Nat):Pw:=Nat.rec (fun _ _ _ _=>none) (fun _ ih=>iw (Ik k (QQ k) ih)) n
theorem eX:Et=Wg:=
 J2 (fun k=>by simp only[Et,Ab]; rfl) fun k n ih=>by rw[LJ,VG,ih]; exact Vb _
noncomputable def aB:Nat→Cz
 | 0=>fun _ _=>none
 | k+1=>dx (O9 k (OC k) (DB k) (R8 k) (Wf k) (Wg k) (Rd k))
theorem kR:Gh=aB:=
 Bb (by simp only[Gh,Ab]; rfl) fun k=>by rw[VB,Sc,DO,ZW,eU,eX,Wm]; exact Fh _
noncomputable def Wh (k n:Nat):JY:=Nat.rec (fun _ _ _ _ _ _ _=>none) (fun _ ih=>Vc (Il k (K1 k) ih)) n
theorem eY:Eu=Wh:=
 J2 (fun k=>by simp only[Eu,Ab]; rfl) fun k n ih=>by rw[LK,Mi,ih]; exact SH _
noncomputable def TQ:Nat→Cz
 | 0=>fun _ _=>none
 | k+1=>dx (IX k (Gj k) (cY k) (Lj k) (aB k) (Nh k) (YL k) (Wh k))
theorem YX:DF=TQ:=
 Bb (by simp only[DF,Ab]; rfl) fun k=>by rw[Ld,GG,mN,NI,kR,Ro,j8,eY]; exact Fh _
noncomputable def We (k n:Nat):Pw:=Nat.rec (fun _ _ _ _=>none) (fun _ ih=>iw (Ii k (TQ k) ih)) n
theorem eR:Er=We:=
 J2 (fun k=>by simp only[Er,Ab]; rfl) fun k n ih=>by rw[LH,YX,ih]; exact Vb _
noncomputable def aA:Nat→Az
 | 0=>fun _ _ _=>none
 | k+1=>K6 (O8 k (Ey k) (We k))
theorem kQ:Hw=aA:=
 Bb (by simp only[Hw,Ab]; rfl) fun k=>by rw[VA,EL,eR]; exact Cr _
noncomputable def R7:Nat→Az
 | 0=>fun _ _ _=>none
 | k+1=>K6 (IA k (BV k) (aA k))
theorem ZT:Bl=R7:=
 Bb (by simp only[Bl,Ab]; rfl) fun k=>by rw[Oa,Ci,kQ]; exact Cr _
noncomputable def YJ:Nat→Cz
 | 0=>fun _ _=>none
 | k+1=>dx (MX k (Ey k))
theorem j4:GC=YJ:=
 Bb (by simp only[GC,Ab]; rfl) fun k=>by rw[Ug,EL]; exact Fh _
noncomputable def Ra:Nat→Cz
 | 0=>fun _ _=>none
 | k+1=>dx (HB k (BV k) (YJ k))
theorem YR:BE=Ra:=
 Bb (by simp only[BE,Ab]; rfl) fun k=>by rw[Nn,Ci,j4]; exact Fh _
def jN (f:XQ):XQ:=fun x0 x1 x2 x3 x4 x5 x6 σ=>fP x0 fun x0=>fN x1 fun x1=>fN x2 fun x2=>fP x3 fun x3=>fN x4 fun x4=>fN x5 fun x5=>fI x6 fun x6=>fL σ fun σ=>f x0 x1 x2 x3 x4 x5 x6 σ
theorem tg (f:XQ):f=jN f:=by funext _ _ _ _ _ _ _ _; simp only[jN,Ad]
noncomputable def aw (k n:Nat):XQ:=Nat.rec (fun _ _ _ _ _ _ _ _=>none) (fun _ ih=>jN (Ln k  ih)) n
theorem kp:Ge=aw:=
 J2 (fun k=>by simp only[Ge,Ab]; rfl) fun k n ih=>by rw[Pd,ih]; exact tg _
def Ais (f:uN):uN:=fun x0 x1 σ=>fS x0 fun x0=>fS x1 fun x1=>fL σ fun σ=>f x0 x1 σ
theorem Af7 (f:uN):f=Ais f:=by funext _ _ _; simp only[Ais,Ad]
noncomputable def jr:Nat→uN
 | 0=>fun _ _ _=>none
 | k+1=>Ais (U7 k (aw k))
theorem qI:D6=jr:=
 Bb (by simp only[D6,Ab]; rfl) fun k=>by rw[ah,kp]; exact Af7 _
noncomputable def az:Nat→Cz
 | 0=>fun _ _=>none
 | k+1=>dx (Oz k (Lj k) (Ey k))
theorem kP:Hv=az:=
 Bb (by simp only[Hv,Ab]; rfl) fun k=>by rw[V8,NI,EL]; exact Fh _
noncomputable def R6:Nat→Cz
 | 0=>fun _ _=>none
 | k+1=>dx (I9 k (BV k) (az k))
theorem ZS:BU=R6:=
 Bb (by simp only[BU,Ab]; rfl) fun k=>by rw[NZ,Ci,kP]; exact Fh _
def Ait (f:zR):zR:=fun x0 x1 σ=>fS x0 fun x0=>fP x1 fun x1=>fL σ fun σ=>f x0 x1 σ
theorem Af8 (f:zR):f=Ait f:=by funext _ _ _; simp only[Ait,Ad]
noncomputable def Uv:Nat→zR
 | 0=>fun _ _ _=>none
 | k+1=>Ait (JS k )
theorem cQ:ES=Uv:=
 Bb (by simp only[ES,Ab]; rfl) fun k=>by rw[Q8]; exact Af8 _
noncomputable def YG:Nat→Dp
 | 0=>fun _ _ _ _ _=>none
 | k+1=>Va (MS k (Uv k))
theorem jo:GA=YG:=
 Bb (by simp only[GA,Ab]; rfl) fun k=>by rw[Ub,cQ]; exact MI _
noncomputable def Uw:Nat→Dp
 | 0=>fun _ _ _ _ _=>none
 | k+1=>Va (JT k (YG k) (Li k))
theorem cS:ET=Uw:=
 Bb (by simp only[ET,Ab]; rfl) fun k=>by rw[Q9,jo,NC]; exact MI _
def dy (f:DT):DT:=fun x0 x1 x2 x3 x4 σ=>fP x0 fun x0=>fI x1 fun x1=>fI x2 fun x2=>fI x3 fun x3=>fI x4 fun x4=>fL σ fun σ=>f x0 x1 x2 x3 x4 σ
theorem Zg (f:DT):f=dy f:=by funext _ _ _ _ _ _; simp only[dy,Ad]
noncomputable def Xa:Nat→DT
 | 0=>fun _ _ _ _ _ _=>none
 | k+1=>dy (LV k (Uw k))
theorem gL:Du=Xa:=
 Bb (by simp only[Du,Ab]; rfl) fun k=>by rw[SU,cS]; exact Zg _
def Aiw (f:Acn):Acn:=fun x0 x1 σ=>fP x0 fun x0=>fI x1 fun x1=>fL σ fun σ=>f x0 x1 σ
theorem Agc (f:Acn):f=Aiw f:=by funext _ _ _; simp only[Aiw,Ad]
noncomputable def Tu (k n:Nat):Acn:=Nat.rec (fun _ _ _=>none) (fun _ ih=>Aiw (Mp k (TQ k) ih)) n
theorem bt:Ep=Tu:=
 J2 (fun k=>by simp only[Ep,Ab]; rfl) fun k n ih=>by rw[Yi,YX,ih]; exact Agc _
noncomputable def Xf:Nat→Cz
 | 0=>fun _ _=>none
 | k+1=>dx (Qx k (Tu k) (Ey k))
theorem gZ:Hm=Xf:=
 Bb (by simp only[Hm,Ab]; rfl) fun k=>by rw[cl,bt,EL]; exact Fh _
noncomputable def PU:Nat→Cz
 | 0=>fun _ _=>none
 | k+1=>dx (Kh k (BV k) (Xf k))
theorem XE:Ej=PU:=
 Bb (by simp only[Ej,Ab]; rfl) fun k=>by rw[V7,Ci,gZ]; exact Fh _
noncomputable def YI:Nat→Cz
 | 0=>fun _ _=>none
 | k+1=>dx (RW k (Ey k))
theorem jz:HY=YI:=
 Bb (by simp only[HY,Ab]; rfl) fun k=>by rw[eD,EL]; exact Fh _
noncomputable def QZ:Nat→Cz
 | 0=>fun _ _=>none
 | k+1=>dx (KS k (BV k) (YI k))
theorem YQ:EG=QZ:=
 Bb (by simp only[EG,Ab]; rfl) fun k=>by rw[Wv,Ci,jz]; exact Fh _
noncomputable def QV:Nat→Cz
 | 0=>fun _ _=>none
 | k+1=>dx (HA k (Li k))
theorem Y4:CY=QV:=
 Bb (by simp only[CY,Ab]; rfl) fun k=>by rw[Nm,NC]; exact Fh _
noncomputable def gP:Nat→jG
 | 0=>fun _ _ _=>none
 | k+1=>Ac1 (Vj k (LO k))
theorem mc:JE=gP:=
 Bb (by simp only[JE,Ab]; rfl) fun k=>by rw[Xy,Rj]; exact sW _
def wX (f:jH):jH:=fun x0 x1 x2 x3 σ=>fP x0 fun x0=>fP x1 fun x1=>fB x2 fun x2=>fI x3 fun x3=>fL σ fun σ=>f x0 x1 x2 x3 σ
theorem zV (f:jH):f=wX f:=by funext _ _ _ _ _; simp only[wX,Ad]
noncomputable def sC:Nat→jH
 | 0=>fun _ _ _ _ _=>none
 | k+1=>wX (dz k (DB k) (QV k) (gP k))
theorem yq:PK=sC:=
 Bb (by simp only[PK,Ab]; rfl) fun k=>by rw[iF,DO,Y4,mc]; exact zV _
noncomputable def pI:Nat→mw
 | 0=>fun _ _ _=>none
 | k+1=>Aga (Zp k (sC k))
theorem wC:Lb=pI:=
 Bb (by simp only[Lb,Ab]; rfl) fun k=>by rw[fj,yq]; exact yQ _
noncomputable def QP:Nat→Az
 | 0=>fun _ _ _=>none
 | k+1=>K6 (Ji k (DB k))
theorem VF:BO=QP:=
 Bb (by simp only[BO,Ab]; rfl) fun k=>by rw[Ms,DO]; exact Cr _
noncomputable def pH:Nat→lg
 | 0=>fun _ _=>none
 | k+1=>W_i (Zl k (gP k))
theorem vy:JA=pH:=
 Bb (by simp only[JA,Ab]; rfl) fun k=>by rw[fh,mc]; exact sV _
noncomputable def ma:Nat→lg
 | 0=>fun _ _=>none
 | k+1=>W_i (W9 k )
theorem tX:HN=ma:=
 Bb (by simp only[HN,Ab]; rfl) fun k=>by rw[cj]; exact sV _
def W_ (f:T_):T_:=fun  σ=>fL σ fun σ=>f  σ
theorem Ahx (f:T_):f=W_ f:=by funext  _; simp only[W_,Ad]
noncomputable def Sj:Nat→T_
 | 0=>fun  _=>none
 | k+1=>W_ (RF k )
theorem W7:F5=Sj:=
 Bb (by simp only[F5,Ab]; rfl) fun k=>by rw[dV]; exact Ahx _
noncomputable def lZ:Nat→Cj
 | 0=>fun _ _ _ _=>none
 | k+1=>W3 (bN k (Sj k) (DB k))
theorem tn:Pz=lZ:=
 Bb (by simp only[Pz,Ab]; rfl) fun k=>by rw[o8,W7,DO]; exact Ll _
noncomputable def Tq (k n:Nat):Pw:=Nat.rec (fun _ _ _ _=>none) (fun _ ih=>iw (GW k (Ng k) ih)) n
theorem bm:D3=Tq:=
 J2 (fun k=>by simp only[D3,Ab]; rfl) fun k n ih=>by rw[Kq,Ri,ih]; exact Vb _
noncomputable def Xd:Nat→Cj
 | 0=>fun _ _ _ _=>none
 | k+1=>W3 (LY k (Tq k) (Hr k))
theorem gU:FK=Xd:=
 Bb (by simp only[FK,Ab]; rfl) fun k=>by rw[SX,bm,Iu]; exact Ll _
noncomputable def Y9:Nat→Az
 | 0=>fun _ _ _=>none
 | k+1=>K6 (MJ k (Dt k) (Ky k) (Xd k))
theorem iP:Gz=Y9:=
 Bb (by simp only[Gz,Ab]; rfl) fun k=>by rw[TR,Dw,Me,gU]; exact Cr _
noncomputable def Ut (k n:Nat):W1:=Nat.rec (fun _ _ _ _ _ _=>none) (fun _ ih=>mX (H2 k (Y9 k) ih)) n
theorem cy:Dm=Ut:=
 J2 (fun k=>by simp only[Dm,Ab]; rfl) fun k n ih=>by rw[KX,iP,ih]; exact nY _
noncomputable def YC:Nat→Dp
 | 0=>fun _ _ _ _ _=>none
 | k+1=>Va (MM k (Ut k) (Sk k))
theorem iS:G1=YC:=
 Bb (by simp only[G1,Ab]; rfl) fun k=>by rw[TT,cy,WI]; exact MI _
noncomputable def fJ:Nat→GS
 | 0=>fun _ _ _ _=>none
 | k+1=>uQ (Sw k )
theorem oR:JB=fJ:=
 Bb (by simp only[JB,Ab]; rfl) fun k=>by rw[Ye]; exact nW _
noncomputable def WY:Nat→DT
 | 0=>fun _ _ _ _ _ _=>none
 | k+1=>dy (LQ k (YC k) (Dt k) (QU k) (UL k) (fJ k) (Nf k))
theorem g7:DW=WY:=
 Bb (by simp only[DW,Ab]; rfl) fun k=>by rw[SO,iS,Dw,S9,X0,oR,Rh]; exact Zg _
noncomputable def QJ:Nat→Cz
 | 0=>fun _ _=>none
 | k+1=>dx (KH k )
theorem XY:E9=QJ:=
 Bb (by simp only[E9,Ab]; rfl) fun k=>by rw[Ws]; exact Fh _
noncomputable def jq:Nat→lg
 | 0=>fun _ _=>none
 | k+1=>W_i (U6 k )
theorem qH:KZ=jq:=
 Bb (by simp only[KZ,Ab]; rfl) fun k=>by rw[ae]; exact sV _
noncomputable def Tl:Nat→jG
 | 0=>fun _ _ _=>none
 | k+1=>Ac1 (Jk k )
theorem bd:CV=Tl:=
 Bb (by simp only[CV,Ab]; rfl) fun k=>by rw[PB]; exact sW _
theorem Z6 (k:Nat) (x0_0:Int) (x0_1:Int) (σ:Aa):fn P (XK Kn.b) H k 285 [.agg #[.int .i64 x0_0,.int .i64 x0_1]] σ=CV k x0_0 x0_1 σ:=by
 simp only[CV,Ab]
noncomputable def UK (k:Nat) (n:FuncId) (l:List Value) (σ:Aa):Option (Value × Aa):=
 if n=285 then (match l with
  | [.agg ⟨[.int .i64 y1,.int .i64 y2]⟩]=>Tl k y1 y2 σ
  | l=>fn P (XK Kn.b) H k 285 l σ) else
 fn P (XK Kn.b) H k n l σ
theorem qw (k:Nat) (n:FuncId) (l:List Value) (σ:Aa):fn P (XK Kn.b) H k n l σ=UK k n l σ:=by
 unfold UK
 split
 ·rename_i hn; subst hn
  split
  ·rw[Z6,bd]
  ·rfl
 rfl
noncomputable def ZK (k:Nat) (f:Value) (args:List Value) (σ:Aa):Option (Value × Aa):=match f with
 | .func (.func n) first cap=>bif Nat.beq n YF then none else UK k n (first.toList++args++cap.toList) σ
 | .func (.yield h) _ _=>fn P (XK Kn.b) H k YF (.pointer (some ⟨h,0,none⟩)::args) σ
 | .func (.method nm) first _=>(match first.toList++args with
   | .iface t v::rest=>(UH P t nm).bind fun n=>bif Nat.beq n YF then none else UK k n (v::rest) σ
   | _=>none)
 | _=>none
theorem qz:Js=ZK:=by
 funext k f args σ
 simp only[Js,Ab]
 unfold ID ZK
 simp only[qw]
 rfl
noncomputable def J4 (k n:Nat):UZ:=Nat.rec (fun _ _ _ _ _ _ _=>none) (fun _ ih=>iz (CS k (ZK k) ih)) n
theorem Qc:Bc=J4:=
 J2 (fun k=>by simp only[Bc,Ab]; rfl) fun k n ih=>by rw[Fl,qz,ih]; exact lB _
noncomputable def KD:Nat→Zf
 | 0=>fun _ _ _=>none
 | k+1=>wV (EV k (J4 k))
theorem Sq:CB=KD:=
 Bb (by simp only[CB,Ab]; rfl) fun k=>by rw[J0,Qc]; exact ir _
noncomputable def J3:Nat→Zf
 | 0=>fun _ _ _=>none
 | k+1=>wV (DV k (KD k))
theorem Qb:BQ=J3:=
 Bb (by simp only[BQ,Ab]; rfl) fun k=>by rw[HO,Sq]; exact ir _
def tc (f:il):il:=fun x0 x1 x2 x3 x4 σ=>fP x0 fun x0=>fI x1 fun x1=>fN x2 fun x2=>fI x3 fun x3=>fI x4 fun x4=>fL σ fun σ=>f x0 x1 x2 x3 x4 σ
theorem xe (f:il):f=tc f:=by funext _ _ _ _ _ _; simp only[tc,Ad]
noncomputable def Tm (k n:Nat):il:=Nat.rec (fun _ _ _ _ _ _=>none) (fun _ ih=>tc (GU k  ih)) n
theorem bf:Dx=Tm:=
 J2 (fun k=>by simp only[Dx,Ab]; rfl) fun k n ih=>by rw[Ki,ih]; exact xe _
def jI (f:RB):RB:=fun x0 x1 x2 x3 x4 x5 x6 σ=>fP x0 fun x0=>fI x1 fun x1=>fI x2 fun x2=>fI x3 fun x3=>fI x4 fun x4=>fI x5 fun x5=>fI x6 fun x6=>fL σ fun σ=>f x0 x1 x2 x3 x4 x5 x6 σ
theorem sX (f:RB):f=jI f:=by funext _ _ _ _ _ _ _ _; simp only[jI,Ad]
noncomputable def QS:Nat→RB
 | 0=>fun _ _ _ _ _ _ _ _=>none
 | k+1=>jI (LR k (Tm k) (Dt k) (Mg k) (jq k) (J3 k))
theorem VH:DX=QS:=
 Bb (by simp only[DX,Ab]; rfl) fun k=>by rw[SP,bf,Dw,Ph,qH,Qb]; exact sX _
noncomputable def QN:Nat→Dp
 | 0=>fun _ _ _ _ _=>none
 | k+1=>Va (H9 k (QS k))
theorem Yp:Bn=QN:=
 Bb (by simp only[Bn,Ab]; rfl) fun k=>by rw[Nl,VH]; exact MI _
noncomputable def ME (k n:Nat):Pw:=Nat.rec (fun _ _ _ _=>none) (fun _ ih=>iw (Ie k (DB k) (QN k) ih)) n
theorem U2:Cu=ME:=
 J2 (fun k=>by simp only[Cu,Ab]; rfl) fun k n ih=>by rw[SM,DO,Yp,ih]; exact Vb _
noncomputable def PQ:Nat→Az
 | 0=>fun _ _ _=>none
 | k+1=>K6 (Kc k (ME k))
theorem Xo:Ee=PQ:=
 Bb (by simp only[Ee,Ab]; rfl) fun k=>by rw[Vo,U2]; exact Cr _
theorem Wp (k:Nat) (x0:Option Addr) (x1:Int) (σ:Aa):fn P (XK Kn.b) H k 272 [.pointer x0,.int .i64 x1] σ=Ee k x0 x1 σ:=by
 simp only[Ee,Ab]
noncomputable def WW:Nat→Cj
 | 0=>fun _ _ _ _=>none
 | k+1=>W3 (LP k (QS k))
theorem gy:CT=WW:=
 Bb (by simp only[CT,Ab]; rfl) fun k=>by rw[SN,VH]; exact Ll _
def Ade (f:im):im:=fun x0 x1 x2 σ=>fP x0 fun x0=>fN x1 fun x1=>fI x2 fun x2=>fL σ fun σ=>f x0 x1 x2 σ
theorem Adf (f:im):f=Ade f:=by funext _ _ _ _; simp only[Ade,Ad]
noncomputable def MD (k n:Nat):im:=Nat.rec (fun _ _ _ _=>none) (fun _ ih=>Ade (Ic k (DB k) (WW k) ih)) n
theorem U1:Ct=MD:=
 J2 (fun k=>by simp only[Ct,Ab]; rfl) fun k n ih=>by rw[SL,DO,gy,ih]; exact Adf _
noncomputable def Ho:Nat→Cz
 | 0=>fun _ _=>none
 | k+1=>dx (Kb k (MD k))
theorem J5:Bx=Ho:=
 Bb (by simp only[Bx,Ab]; rfl) fun k=>by rw[Vn,U1]; exact Fh _
def Aiu (f:uP):uP:=fun x0 x1 σ=>fP x0 fun x0=>fS x1 fun x1=>fL σ fun σ=>f x0 x1 σ
theorem Af9 (f:uP):f=Aiu f:=by funext _ _ _; simp only[Aiu,Ad]
noncomputable def Hp:Nat→uP
 | 0=>fun _ _ _=>none
 | k+1=>Aiu (Ke k (Ho k))
theorem J6:Bz=Hp:=
 Bb (by simp only[Bz,Ab]; rfl) fun k=>by rw[Vp,J5]; exact Af9 _
def xc (f:jE):jE:=fun x0 x1 x2 x3 σ=>fP x0 fun x0=>fI x1 fun x1=>fS x2 fun x2=>fI x3 fun x3=>fL σ fun σ=>f x0 x1 x2 x3 σ
theorem zY (f:jE):f=xc f:=by funext _ _ _ _ _; simp only[xc,Ad]
noncomputable def Mf (k n:Nat):jE:=Nat.rec (fun _ _ _ _ _=>none) (fun _ ih=>xc (H8 k (QP k) (QQ k) ih)) n
theorem T9:Cg=Mf:=
 J2 (fun k=>by simp only[Cg,Ab]; rfl) fun k n ih=>by rw[RZ,VF,VG,ih]; exact zY _
noncomputable def JI:Nat→Cz
 | 0=>fun _ _=>none
 | k+1=>dx (J7 k (Mf k) (DB k))
theorem Nj:Ck=JI:=
 Bb (by simp only[Ck,Ab]; rfl) fun k=>by rw[UB,T9,DO]; exact Fh _
noncomputable def Sl:Nat→Az
 | 0=>fun _ _ _=>none
 | k+1=>K6 (RK k (Mg k))
theorem WJ:F7=Sl:=
 Bb (by simp only[F7,Ab]; rfl) fun k=>by rw[dY,Ph]; exact Cr _
def Ac2 (f:nT):nT:=fun x0 x1 x2 σ=>fI x0 fun x0=>fP x1 fun x1=>fP x2 fun x2=>fL σ fun σ=>f x0 x1 x2 σ
theorem Ac3 (f:nT):f=Ac2 f:=by funext _ _ _ _; simp only[Ac2,Ad]
noncomputable def NF:Nat→nT
 | 0=>fun _ _ _ _=>none
 | k+1=>Ac2 (N0 k )
theorem Tc:DL=NF:=
 Bb (by simp only[DL,Ab]; rfl) fun k=>by rw[Zv]; exact Ac3 _
def Zh (f:OH):OH:=fun x0 x1 x2 x3 x4 x5 x6 x7 σ=>fP x0 fun x0=>fN x1 fun x1=>fN x2 fun x2=>fP x3 fun x3=>fN x4 fun x4=>fN x5 fun x5=>fI x6 fun x6=>fI x7 fun x7=>fL σ fun σ=>f x0 x1 x2 x3 x4 x5 x6 x7 σ
theorem ff (f:OH):f=Zh f:=by funext _ _ _ _ _ _ _ _ _; simp only[Zh,Ad]
noncomputable def Ur (k n:Nat):OH:=Nat.rec (fun _ _ _ _ _ _ _ _ _=>none) (fun _ ih=>Zh (N1 k (NF k) (Ky k) ih)) n
theorem cw:EO=Ur:=
 J2 (fun k=>by simp only[EO,Ab]; rfl) fun k n ih=>by rw[Zw,Tc,Me,ih]; exact ff _
noncomputable def YA:Nat→Az
 | 0=>fun _ _ _=>none
 | k+1=>K6 (RJ k (NF k) (Ur k) (H6 k) (Sl k))
theorem iQ:HU=YA:=
 Bb (by simp only[HU,Ab]; rfl) fun k=>by rw[dX,Tc,cw,J1,WJ]; exact Cr _
def gg (f:UW):UW:=fun x0 x1 x2 x3 x4 x5 x6 x7 σ=>fI x0 fun x0=>fI x1 fun x1=>fP x2 fun x2=>fN x3 fun x3=>fN x4 fun x4=>fI x5 fun x5=>fS x6 fun x6=>fI x7 fun x7=>fL σ fun σ=>f x0 x1 x2 x3 x4 x5 x6 x7 σ
theorem qq (f:UW):f=gg f:=by funext _ _ _ _ _ _ _ _ _; simp only[gg,Ad]
noncomputable def Nr (k n:Nat):UW:=Nat.rec (fun _ _ _ _ _ _ _ _ _=>none) (fun _ ih=>gg (IJ k  ih)) n
theorem Ve:CM=Nr:=
 J2 (fun k=>by simp only[CM,Ab]; rfl) fun k n ih=>by rw[TJ,ih]; exact qq _
def bF (f:SF):SF:=fun x0 x1 x2 x3 x4 x5 x6 x7 x8 σ=>fP x0 fun x0=>fI x1 fun x1=>fI x2 fun x2=>fP x3 fun x3=>fN x4 fun x4=>fN x5 fun x5=>fI x6 fun x6=>fS x7 fun x7=>fI x8 fun x8=>fL σ fun σ=>f x0 x1 x2 x3 x4 x5 x6 x7 x8 σ
theorem nZ (f:SF):f=bF f:=by funext _ _ _ _ _ _ _ _ _ _; simp only[bF,Ad]
noncomputable def Nq (k n:Nat):SF:=Nat.rec (fun _ _ _ _ _ _ _ _ _ _=>none) (fun _ ih=>bF (II k (Nr k) (YA k) ih)) n
theorem Vd:CL=Nq:=
 J2 (fun k=>by simp only[CL,Ab]; rfl) fun k n ih=>by rw[TI,Ve,iQ,ih]; exact nZ _
noncomputable def HI:Nat→Cj
 | 0=>fun _ _ _ _=>none
 | k+1=>W3 (KF k (JI k) (Nq k))
theorem JZ:BA=HI:=
 Bb (by simp only[BA,Ab]; rfl) fun k=>by rw[Wq,Nj,Vd]; exact Ll _
noncomputable def Up:Nat→Az
 | 0=>fun _ _ _=>none
 | k+1=>K6 (Ny k (HI k) (Hp k))
theorem bJ:FU=Up:=
 Bb (by simp only[FU,Ab]; rfl) fun k=>by rw[Zt,JZ,J6]; exact Cr _
theorem aD (k:Nat) (x1:Option Addr) (x2:Int) (σ:Aa):fn P (XK Kn.b) H k 317 [.agg #[],.pointer x1,.int .i64 x2] σ=FU k x1 x2 σ:=by
 simp only[FU,Ab]
def wT (f:gb):gb:=fun x0 x1 x2 x3 σ=>fI x0 fun x0=>fI x1 fun x1=>fI x2 fun x2=>fI x3 fun x3=>fL σ fun σ=>f x0 x1 x2 x3 σ
theorem zS (f:gb):f=wT f:=by funext _ _ _ _ _; simp only[wT,Ad]
noncomputable def R3:Nat→gb
 | 0=>fun _ _ _ _ _=>none
 | k+1=>wT (LB k )
theorem Zj:Fb=R3:=
 Bb (by simp only[Fb,Ab]; rfl) fun k=>by rw[Xx]; exact zS _
theorem XZ (k:Nat) (x0_0:Int) (x0_1:Int) (x1_0:Int) (x1_1:Int) (σ:Aa):fn P (XK Kn.b) H k 327 [.agg #[.int .i64 x0_0,.int .i64 x0_1],.agg #[.int .i64 x1_0,.int .i64 x1_1]] σ=Fb k x0_0 x0_1 x1_0 x1_1 σ:=by
 simp only[Fb,Ab]
noncomputable def QL (k:Nat) (n:FuncId) (l:List Value) (σ:Aa):Option (Value × Aa):=
 if n=327 then (match l with
  | [.agg ⟨[.int .i64 y1,.int .i64 y2]⟩,.agg ⟨[.int .i64 y3,.int .i64 y4]⟩]=>R3 k y1 y2 y3 y4 σ
  | l=>fn P (XK Kn.b) H k 327 l σ) else
 fn P (XK Kn.b) H k n l σ
theorem mz (k:Nat) (n:FuncId) (l:List Value) (σ:Aa):fn P (XK Kn.b) H k n l σ=QL k n l σ:=by
 unfold QL
 split
 ·rename_i hn; subst hn
  split
  ·rw[XZ,Zj]
  ·rfl
 rfl
noncomputable def VY (k:Nat) (f:Value) (args:List Value) (σ:Aa):Option (Value × Aa):=match f with
 | .func (.func n) first cap=>bif Nat.beq n YF then none else QL k n (first.toList++args++cap.toList) σ
 | .func (.yield h) _ _=>fn P (XK Kn.b) H k YF (.pointer (some ⟨h,0,none⟩)::args) σ
 | .func (.method nm) first _=>(match first.toList++args with
   | .iface t v::rest=>(UH P t nm).bind fun n=>bif Nat.beq n YF then none else QL k n (v::rest) σ
   | _=>none)
 | _=>none
theorem m9:Qz=VY:=by
 funext k f args σ
 simp only[Qz,Ab]
 unfold ID VY
 simp only[mz]
 rfl
def iy (f:UX):UX:=fun x0 x1 x2 x3 x4 x5 σ=>fP x0 fun x0=>fN x1 fun x1=>fN x2 fun x2=>fI x3 fun x3=>fI x5 fun x5=>fL σ fun σ=>f x0 x1 x2 x3 x4 x5 σ
theorem lu (f:UX):f=iy f:=by funext _ _ _ _ _ _ _; simp only[iy,Ad]
noncomputable def Gt (k n:Nat):UX:=Nat.rec (fun _ _ _ _ _ _ _=>none) (fun _ ih=>iy (DQ k (VY k) ih)) n
theorem Ly:AR=Gt:=
 J2 (fun k=>by simp only[AR,Ab]; rfl) fun k n ih=>by rw[K8,m9,ih]; exact lu _
def jL (f:XO):XO:=fun x0 x1 x2 x3 x4 x5 x6 σ=>fP x0 fun x0=>fN x1 fun x1=>fN x2 fun x2=>fI x3 fun x3=>fI x4 fun x4=>fI x6 fun x6=>fL σ fun σ=>f x0 x1 x2 x3 x4 x5 x6 σ
theorem te (f:XO):f=jL f:=by funext _ _ _ _ _ _ _ _; simp only[jL,Ad]
noncomputable def Gs (k n:Nat):XO:=Nat.rec (fun _ _ _ _ _ _ _ _=>none) (fun _ ih=>jL (DP k (Gt k) ih)) n
theorem Lx:AQ=Gs:=
 J2 (fun k=>by simp only[AQ,Ab]; rfl) fun k n ih=>by rw[K7,Ly,ih]; exact te _
def wU (f:gf):gf:=fun x0 x1 x2 x3 σ=>fS x0 fun x0=>fI x1 fun x1=>fI x2 fun x2=>fL σ fun σ=>f x0 x1 x2 x3 σ
theorem zT (f:gf):f=wU f:=by funext _ _ _ _ _; simp only[wU,Ad]
noncomputable def EJ:Nat→gf
 | 0=>fun _ _ _ _ _=>none
 | k+1=>wU (E7 k (Gs k))
theorem Hf:AP=EJ:=
 Bb (by simp only[AP,Ab]; rfl) fun k=>by rw[LG,Lx]; exact zT _
noncomputable def FO (k:Nat) (x0:Option Addr × Nat × Nat) (x1:Int) (x2:Int) (x3:Int) (x4:Value) (σ:Aa):Option (Value × Aa):=BR k x0 x1 x2 x3 x4 σ
theorem IH:BR=FO:=rfl
def jM (f:XP):XP:=fun x0 x1 x2 x3 x4 x5 x6 σ=>fP x0 fun x0=>fN x1 fun x1=>fN x2 fun x2=>fI x3 fun x3=>fI x5 fun x5=>fI x6 fun x6=>fL σ fun σ=>f x0 x1 x2 x3 x4 x5 x6 σ
theorem tf (f:XP):f=jM f:=by funext _ _ _ _ _ _ _ _; simp only[jM,Ad]
noncomputable def IE (k n:Nat):XP:=Nat.rec (fun _ _ _ _ _ _ _ _=>none) (fun _ ih=>jM (F8 k (EJ k) ih)) n
theorem Pp:Bh=IE:=
 J2 (fun k=>by simp only[Bh,Ab]; rfl) fun k n ih=>by rw[N7,Hf,ih]; exact tf _
def gh (f:UY):UY:=fun x0 x1 x2 x3 x4 x5 x6 x7 σ=>fP x0 fun x0=>fN x1 fun x1=>fN x2 fun x2=>fI x3 fun x3=>fI x5 fun x5=>fI x6 fun x6=>fI x7 fun x7=>fL σ fun σ=>f x0 x1 x2 x3 x4 x5 x6 x7 σ
theorem qt (f:UY):f=gh f:=by funext _ _ _ _ _ _ _ _ _; simp only[gh,Ad]
noncomputable def IG (k n:Nat):UY:=Nat.rec (fun _ _ _ _ _ _ _ _ _=>none) (fun _ ih=>gh (FA k (FO k) ih)) n
theorem Pr:Bj=IG:=
 J2 (fun k=>by simp only[Bj,Ab]; rfl) fun k n ih=>by rw[N9,IH,ih]; exact qt _
noncomputable def IF (k n:Nat):UX:=Nat.rec (fun _ _ _ _ _ _ _=>none) (fun _ ih=>iy (F9 k (IG k) (FO k) ih)) n
theorem Pq:Bi=IF:=
 J2 (fun k=>by simp only[Bi,Ab]; rfl) fun k n ih=>by rw[N8,Pr,IH,ih]; exact lu _
def Ac4 (f:ry):ry:=fun x0 x1 x2 σ=>fS x0 fun x0=>fI x1 fun x1=>fL σ fun σ=>f x0 x1 x2 σ
theorem Ac5 (f:ry):f=Ac4 f:=by funext _ _ _ _; simp only[Ac4,Ad]
noncomputable def Kz:Nat→ry
 | 0=>fun _ _ _ _=>none
 | k+1=>Ac4 (Gu k (EJ k) (IE k) (IF k))
theorem Rs:Co=Kz:=
 Bb (by simp only[Co,Ab]; rfl) fun k=>by rw[PZ,Hf,Pp,Pq]; exact Ac5 _
noncomputable def JL:Nat→Zf
 | 0=>fun _ _ _=>none
 | k+1=>wV (Gl k (Kz k))
theorem Rk:Cd=JL:=
 Bb (by simp only[Cd,Ab]; rfl) fun k=>by rw[Pf,Rs]; exact ir _
noncomputable def VV:Nat→Az
 | 0=>fun _ _ _=>none
 | k+1=>K6 (OK k (HI k) (Hp k) (JL k))
theorem dQ:Gv=VV:=
 Bb (by simp only[Gv,Ab]; rfl) fun k=>by rw[aG,JZ,J6,Rk]; exact Cr _
theorem bH (k:Nat) (x1:Option Addr) (x2:Int) (σ:Aa):fn P (XK Kn.b) H k 325 [.agg #[],.pointer x1,.int .i64 x2] σ=Gv k x1 x2 σ:=by
 simp only[Gv,Ab]
noncomputable def VX:Nat→Az
 | 0=>fun _ _ _=>none
 | k+1=>K6 (OM k (HI k) (Hp k))
theorem dS:Gx=VX:=
 Bb (by simp only[Gx,Ab]; rfl) fun k=>by rw[aI,JZ,J6]; exact Cr _
theorem bL (k:Nat) (x1:Option Addr) (x2:Int) (σ:Aa):fn P (XK Kn.b) H k 333 [.agg #[],.pointer x1,.int .i64 x2] σ=Gx k x1 x2 σ:=by
 simp only[Gx,Ab]
noncomputable def Si:Nat→Az
 | 0=>fun _ _ _=>none
 | k+1=>K6 (RE k )
theorem W6:F4=Si:=
 Bb (by simp only[F4,Ab]; rfl) fun k=>by rw[dU]; exact Cr _
noncomputable def QK:Nat→Az
 | 0=>fun _ _ _=>none
 | k+1=>K6 (Qg k )
theorem Vi:EW=QK:=
 Bb (by simp only[EW,Ab]; rfl) fun k=>by rw[bR]; exact Cr _
def Ada (f:nV):nV:=fun x0 x1 x2 σ=>fP x0 fun x0=>fP x1 fun x1=>fI x2 fun x2=>fL σ fun σ=>f x0 x1 x2 σ
theorem Adb (f:nV):f=Ada f:=by funext _ _ _ _; simp only[Ada,Ad]
noncomputable def JJ:Nat→nV
 | 0=>fun _ _ _ _=>none
 | k+1=>Ada (J8 k (Ho k) (Si k) (QK k))
theorem Nk:Cl=JJ:=
 Bb (by simp only[Cl,Ab]; rfl) fun k=>by rw[UC,J5,W6,Vi]; exact Adb _
noncomputable def VW:Nat→Az
 | 0=>fun _ _ _=>none
 | k+1=>K6 (OL k (JJ k))
theorem dR:Gw=VW:=
 Bb (by simp only[Gw,Ab]; rfl) fun k=>by rw[aH,Nk]; exact Cr _
theorem bI (k:Nat) (x1:Option Addr) (x2:Int) (σ:Aa):fn P (XK Kn.b) H k 334 [.agg #[],.pointer x1,.int .i64 x2] σ=Gw k x1 x2 σ:=by
 simp only[Gw,Ab]
def wZ (f:nx):nx:=fun x0 x1 x2 x3 σ=>fN x0 fun x0=>fN x1 fun x1=>fI x2 fun x2=>fI x3 fun x3=>fL σ fun σ=>f x0 x1 x2 x3 σ
theorem zX (f:nx):f=wZ f:=by funext _ _ _ _ _; simp only[wZ,Ad]
noncomputable def Tk (k n:Nat):nx:=Nat.rec (fun _ _ _ _ _=>none) (fun _ ih=>wZ (Mn k  ih)) n
theorem ba:En=Tk:=
 J2 (fun k=>by simp only[En,Ab]; rfl) fun k n ih=>by rw[Yd,ih]; exact zX _
noncomputable def Tj (k n:Nat):OH:=Nat.rec (fun _ _ _ _ _ _ _ _ _=>none) (fun _ ih=>Zh (Mm k (Tk k) (Ky k) ih)) n
theorem aZ:Em=Tj:=
 J2 (fun k=>by simp only[Em,Ab]; rfl) fun k n ih=>by rw[Yc,ba,Me,ih]; exact ff _
noncomputable def WX:Nat→Az
 | 0=>fun _ _ _=>none
 | k+1=>K6 (Qi k (Tj k) (H6 k) (Sl k))
theorem gz:Hi=WX:=
 Bb (by simp only[Hi,Ab]; rfl) fun k=>by rw[bT,aZ,J1,WJ]; exact Cr _
def xf (f:ny):ny:=fun x0 x1 x2 x3 σ=>fP x0 fun x0=>fN x1 fun x1=>fN x2 fun x2=>fI x3 fun x3=>fL σ fun σ=>f x0 x1 x2 x3 σ
theorem zZ (f:ny):f=xf f:=by funext _ _ _ _ _; simp only[xf,Ad]
noncomputable def Nu (k n:Nat):ny:=Nat.rec (fun _ _ _ _ _=>none) (fun _ ih=>xf (IM k  ih)) n
theorem Vh:CP=Nu:=
 J2 (fun k=>by simp only[CP,Ab]; rfl) fun k n ih=>by rw[TM,ih]; exact zZ _
def jK (f:XN):XN:=fun x0 x1 x2 x3 x4 x5 x6 σ=>fP x0 fun x0=>fN x1 fun x1=>fI x2 fun x2=>fP x3 fun x3=>fN x4 fun x4=>fN x5 fun x5=>fI x6 fun x6=>fL σ fun σ=>f x0 x1 x2 x3 x4 x5 x6 σ
theorem td (f:XN):f=jK f:=by funext _ _ _ _ _ _ _ _; simp only[jK,Ad]
noncomputable def Nt (k n:Nat):XN:=Nat.rec (fun _ _ _ _ _ _ _ _=>none) (fun _ ih=>jK (IL k (Nu k) ih)) n
theorem Vg:CO=Nt:=
 J2 (fun k=>by simp only[CO,Ab]; rfl) fun k n ih=>by rw[TL,Vh,ih]; exact td _
def jO (f:XR):XR:=fun x0 x1 x2 x3 x4 x5 x6 σ=>fP x0 fun x0=>fN x1 fun x1=>fP x2 fun x2=>fN x3 fun x3=>fN x4 fun x4=>fI x5 fun x5=>fI x6 fun x6=>fL σ fun σ=>f x0 x1 x2 x3 x4 x5 x6 σ
theorem th (f:XR):f=jO f:=by funext _ _ _ _ _ _ _ _; simp only[jO,Ad]
noncomputable def Ns (k n:Nat):XR:=Nat.rec (fun _ _ _ _ _ _ _ _=>none) (fun _ ih=>jO (IK k (Nt k) (WX k) ih)) n
theorem Vf:CN=Ns:=
 J2 (fun k=>by simp only[CN,Ab]; rfl) fun k n ih=>by rw[TK,Vg,gz,ih]; exact th _
noncomputable def QH:Nat→Cz
 | 0=>fun _ _=>none
 | k+1=>dx (KG k (Ho k) (JI k) (Ns k))
theorem XX:E8=QH:=
 Bb (by simp only[E8,Ab]; rfl) fun k=>by rw[Wr,J5,Nj,Vf]; exact Fh _
noncomputable def Uq:Nat→Az
 | 0=>fun _ _ _=>none
 | k+1=>K6 (Nz k (JJ k) (QH k) (Si k) (QK k))
theorem bK:FV=Uq:=
 Bb (by simp only[FV,Ab]; rfl) fun k=>by rw[Zu,Nk,XX,W6,Vi]; exact Cr _
theorem aE (k:Nat) (x1:Option Addr) (x2:Int) (σ:Aa):fn P (XK Kn.b) H k 338 [.agg #[],.pointer x1,.int .i64 x2] σ=FV k x1 x2 σ:=by
 simp only[FV,Ab]
noncomputable def SD (k:Nat) (n:FuncId) (l:List Value) (σ:Aa):Option (Value × Aa):=
 if n=272 then (match l with
  | [.pointer y1,.int .i64 y2]=>PQ k y1 y2 σ
  | l=>fn P (XK Kn.b) H k 272 l σ) else
 if n=317 then (match l with
  | [.agg ⟨[]⟩,.pointer y1,.int .i64 y2]=>Up k y1 y2 σ
  | l=>fn P (XK Kn.b) H k 317 l σ) else
 if n=325 then (match l with
  | [.agg ⟨[]⟩,.pointer y1,.int .i64 y2]=>VV k y1 y2 σ
  | l=>fn P (XK Kn.b) H k 325 l σ) else
 if n=333 then (match l with
  | [.agg ⟨[]⟩,.pointer y1,.int .i64 y2]=>VX k y1 y2 σ
  | l=>fn P (XK Kn.b) H k 333 l σ) else
 if n=334 then (match l with
  | [.agg ⟨[]⟩,.pointer y1,.int .i64 y2]=>VW k y1 y2 σ
  | l=>fn P (XK Kn.b) H k 334 l σ) else
 if n=338 then (match l with
  | [.agg ⟨[]⟩,.pointer y1,.int .i64 y2]=>Uq k y1 y2 σ
  | l=>fn P (XK Kn.b) H k 338 l σ) else
 fn P (XK Kn.b) H k n l σ
theorem oy (k:Nat) (n:FuncId) (l:List Value) (σ:Aa):fn P (XK Kn.b) H k n l σ=SD k n l σ:=by
 unfold SD
 split
 ·rename_i hn; subst hn
  split
  ·rw[Wp,Xo]
  ·rfl
 split
 ·rename_i hn; subst hn
  split
  ·rw[aD,bJ]
  ·rfl
 split
 ·rename_i hn; subst hn
  split
  ·rw[bH,dQ]
  ·rfl
 split
 ·rename_i hn; subst hn
  split
  ·rw[bL,dS]
  ·rfl
 split
 ·rename_i hn; subst hn
  split
  ·rw[bI,dR]
  ·rfl
 split
 ·rename_i hn; subst hn
  split
  ·rw[aE,bK]
  ·rfl
 rfl
noncomputable def X9 (k:Nat) (f:Value) (args:List Value) (σ:Aa):Option (Value × Aa):=match f with
 | .func (.func n) first cap=>bif Nat.beq n YF then none else SD k n (first.toList++args++cap.toList) σ
 | .func (.yield h) _ _=>fn P (XK Kn.b) H k YF (.pointer (some ⟨h,0,none⟩)::args) σ
 | .func (.method nm) first _=>(match first.toList++args with
   | .iface t v::rest=>(UH P t nm).bind fun n=>bif Nat.beq n YF then none else SD k n (v::rest) σ
   | _=>none)
 | _=>none
theorem oz:S8=X9:=by
 funext k f args σ
 simp only[S8,Ab]
 unfold ID X9
 simp only[oy]
 rfl
noncomputable def PO:Nat→Dp
 | 0=>fun _ _ _ _ _=>none
 | k+1=>Va (Ka k (QJ k) (Sj k) (X9 k) (WY k) (QP k) (QU k) (UL k))
theorem Xn:Ed=PO:=
 Bb (by simp only[Ed,Ab]; rfl) fun k=>by rw[Vm,XY,W7,oz,g7,VF,S9,X0]; exact MI _
noncomputable def YH:Nat→DT
 | 0=>fun _ _ _ _ _ _=>none
 | k+1=>dy (RU k (PO k) (lZ k) (QU k) (Ey k) (Nh k))
theorem jy:HX=YH:=
 Bb (by simp only[HX,Ab]; rfl) fun k=>by rw[ez,Xn,tn,S9,EL,Ro]; exact Zg _
noncomputable def QY:Nat→DT
 | 0=>fun _ _ _ _ _ _=>none
 | k+1=>dy (KR k (BV k) (YH k))
theorem YP:EF=QY:=
 Bb (by simp only[EF,Ab]; rfl) fun k=>by rw[Wu,Ci,jy]; exact Zg _
noncomputable def cZ:Nat→Cj
 | 0=>fun _ _ _ _=>none
 | k+1=>W3 (Vk k (Gk k) (Ey k))
theorem mQ:Kr=cZ:=
 Bb (by simp only[Kr,Ab]; rfl) fun k=>by rw[iE,GH,EL]; exact Ll _
noncomputable def TP:Nat→Cz
 | 0=>fun _ _=>none
 | k+1=>dx (TE k )
theorem YW:Gg=TP:=
 Bb (by simp only[Gg,Ab]; rfl) fun k=>by rw[gr]; exact Fh _
noncomputable def Xg:Nat→Az
 | 0=>fun _ _ _=>none
 | k+1=>K6 (Qy k (K1 k))
theorem hJ:Hn=Xg:=
 Bb (by simp only[Hn,Ab]; rfl) fun k=>by rw[cm,Mi]; exact Cr _
noncomputable def Lw:Nat→Dp
 | 0=>fun _ _ _ _ _=>none
 | k+1=>Va (Hs k (Gk k) (ZL k) (TP k) (Xg k))
theorem Ty:CR=Lw:=
 Bb (by simp only[CR,Ab]; rfl) fun k=>by rw[Rr,GH,fC,YW,hJ]; exact MI _
noncomputable def Rc:Nat→Dp
 | 0=>fun _ _ _ _ _=>none
 | k+1=>Va (KT k (Pk k) (BV k) (Lw k) (TP k) (cZ k))
theorem YT:EH=Rc:=
 Bb (by simp only[EH,Ab]; rfl) fun k=>by rw[Ww,Um,Ci,Ty,YW,mQ]; exact MI _
noncomputable def Xe:Nat→Az
 | 0=>fun _ _ _=>none
 | k+1=>K6 (Qw k (Gj k) (Ey k) (Oj k))
theorem gY:Hl=Xe:=
 Bb (by simp only[Hl,Ab]; rfl) fun k=>by rw[ck,GG,EL,Rn]; exact Cr _
noncomputable def PT:Nat→Az
 | 0=>fun _ _ _=>none
 | k+1=>K6 (Kg k (BV k) (Xe k))
theorem XD:Ei=PT:=
 Bb (by simp only[Ei,Ab]; rfl) fun k=>by rw[V1,Ci,gY]; exact Cr _
end
section
local instance kn1:Kn:=⟨false⟩
variable [A9]
noncomputable def fK:Nat→T_
 | 0=>fun  _=>none
 | k+1=>W_ (Xq k (pH k) (jr k) (ma k) (Xa k) (QY k) (PT k) (PU k) (QZ k) (R6 k) (Ra k) (Rb k) (R7 k) (Rc k) (pI k))
theorem oV:GN=fK:=
 Bb (by simp only[GN,Ab]; rfl) fun k=>by rw[bW,vy,qI,tX,gL,YP,XD,XE,YQ,ZS,YR,YS,ZT,YT,wC]; exact Ahx _
end
end Go.Proofs.YtjbledomkmdkmaaGreat
