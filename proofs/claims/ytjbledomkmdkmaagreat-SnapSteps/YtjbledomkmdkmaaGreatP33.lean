/- A scene is opened.; A collector over a scene.; A heap read: what was made of it. -/
import Derived.Test.YtjbledomkmdkmaaGreatP32
set_option linter.unusedVariables false
set_option linter.unusedSimpArgs false
set_option linter.unusedSectionVars false
section
namespace Go.Proofs.YtjbledomkmdkmaaGreat
open Go Go.AX
noncomputable local instance qGW:A9:=Aw
local instance nGW:Kn:=⟨true⟩
variable {σ:Aa} {m mr:HM} {t:RM} {r rq:K4} {I:Sv}
def fu (m:HM) (b0 b1 b2:Nat):HM:=if 0<(Au m (my m (b0 % 100))).1 then (EK m (my m (b0 % 100)) (((b1:Nat):Int).tmod (Au m (my m (b0 % 100))).1) (my m (b2 % 100))).2 else m
theorem Aeg (hM:MK m) (h:Zc m) (b0 b1 b2:Nat):MK (fu m b0 b1 b2)∧Zc (fu m b0 b1 b2)∧(fu m b0 b1 b2).births=m.births∧(fu m b0 b1 b2).bls.length=m.bls.length:=by
 unfold fu
 split
 ·have s:=XB m (my m (b0 % 100)) (((b1:Nat):Int).tmod (Au m (my m (b0 % 100))).1) (my m (b2 % 100))
  exact ⟨hM.setRef _ _ _,h.setRef hM.inv _ _ _,s.2.2.1,by rw[s.1]⟩
 ·exact ⟨hM,h,rfl,rfl⟩
theorem Ab1 (σ:Aa) (T:TypeId) (a b c x y z:Value):XJ (σ++[.cells [a,b,c] T true]) σ.length 0 [x,y,z]=some (σ++[.cells [x,y,z] T true]):=Iv σ T a b c x y z
theorem nE (k:Nat) (hk:5000≤k) (B:Bg) (r:K4):∀ (n x:Nat) (m:HM),MK m→Zc m→x+n=min B.li.n 120 →
  ∃ m',MK m'∧Zc m'∧m'.births=m.births∧m'.bls.length=m.bls.length ∧ ∀ lo h0 sb,uG lo h0 sb B (fun f=>BS (k+12) f h0 sb (x:Int)) (.exit 4) n m m' r r
 | 0,x,m,hM,hz,hx=>by
   refine ⟨m,hM,hz,rfl,rfl,fun lo h0 sb f μ I t hf M=>?_⟩
   obtain ⟨f,rfl⟩:∃ f',f=f'+1:=⟨f-1,by omega⟩
   refine ⟨μ,I,t, ?_,M,Mv.refl _ _⟩
   show BS _ _ _ _ _ _=_
   rw[NR,Iy]
   simp only[sw,Ad,Af,Ae,Nat.zero_add,M.b.Hx.2.2.1,Option.bind_some]
   by_cases q:x<B.li.n
   ·simp only[decide_eq_true (show (x:Int)<((B.li.n:Nat):Int) by omega),cond_true,decide_eq_false (show ¬ (x:Int)<120 by omega),Option.bind_some,cond_false]
   ·simp only[decide_eq_false (show ¬ (x:Int)<((B.li.n:Nat):Int) by omega),cond_false,Option.bind_some]
 | n+1,x,m,hM,hz,hx=>by
   obtain ⟨P1,P2,P3,P4⟩:=Aeg hM hz (B.li.at (x*3)).toNat (B.li.at (x*3+1)).toNat (B.li.at (x*3+2)).toNat
   obtain ⟨m',a1,a2,a3,a4,LL⟩:=nE k hk B r n (x+1) _ P1 P2 (by omega)
   refine ⟨m',a1,a2,a3.trans P3,a4.trans P4,fun lo h0 sb f μ I t hf M=>?_⟩
   have L:=LL lo h0 sb
   obtain ⟨f,rfl⟩:∃ f',f=f'+1:=⟨f-1,by omega⟩
   have w1:Cf ((x:Int)+1)=((x+1:Nat):Int):=Ak (by unfold AU; omega)
   have hxn:x<B.li.n:=by omega
   obtain ⟨q,eq,hq,ld⟩:=M.b.li.ld hxn
   have qx:(0≤(x:Int)∧(x:Int)<((B.li.n:Nat):Int))=True:=eq_true (by omega)
   have d0:=ld μ rfl 0 (by decide)
   have d1:=ld μ rfl 1 (by decide)
   have d2:=ld μ rfl 2 (by decide)
   rw[Nat.add_zero] at d0
   have g0:=M.b.li.rg (x*3)
   have g1:=M.b.li.rg (x*3+1)
   have g2:=M.b.li.rg (x*3+2)
   obtain ⟨y0,hy0⟩:∃ y:Nat,B.li.at (x*3)=(y:Int):=⟨(B.li.at (x*3)).toNat,by omega⟩
   obtain ⟨y1,hy1⟩:∃ y:Nat,B.li.at (x*3+1)=(y:Int):=⟨(B.li.at (x*3+1)).toNat,by omega⟩
   obtain ⟨y2,hy2⟩:∃ y:Nat,B.li.at (x*3+2)=(y:Int):=⟨(B.li.at (x*3+2)).toNat,by omega⟩
   rw[hy0,hy1,hy2,Int.toNat_natCast,Int.toNat_natCast,Int.toNat_natCast] at L
   rw[hy0] at d0
   rw[hy1] at d1
   rw[hy2] at d2
   have v0:Cf (y0:Int)=(y0:Int):=Ak (by unfold AU; omega)
   have v1:Cf (y1:Int)=(y1:Int):=Ak (by unfold AU; omega)
   have v2:Cf (y2:Int)=(y2:Int):=Ak (by unfold AU; omega)
   have em0:(y0:Int).tmod 100=((y0 % 100:Nat):Int):=fX y0 100
   have em2:(y2:Int).tmod 100=((y2 % 100:Nat):Int):=fX y2 100
   obtain ⟨A,hA⟩:∃ A,A6.cells [.int .u8 (y0:Int),.int .u8 (y1:Int),.int .u8 (y2:Int)] rz true=A:=⟨_,rfl⟩
   have M1:=M.app [A]
   have la:∀ τ o v,([Value.int .u8 (y0:Int),.int .u8 (y1:Int),.int .u8 (y2:Int)]:List Value)[o]?=some (.int .u8 v)→Dg .u8 (μ++[A]++τ) μ.length o=some v:=fun τ o v h=>by rw[← hA]; exact Ad9 _ _ _ _ _ _ h
   have la0:Dg .u8 (μ++[A]) μ.length 0=some (y0:Int):=by have:=la [] 0 (y0:Int) rfl; rwa [List.append_nil] at this
   have hsb:=M.sb
   subst hsb
   have eA:Bq (k+12) (bq I) ((y0 % 100:Nat):Int) (μ++[A])=_:=uz (k+11) M1.s (Nat.mod_lt _ (by decide))
   have hain:=uy (n:=y0 % 100) hM
   obtain ⟨a,ha⟩:∃ a,my m (y0 % 100)=a:=⟨_,rfl⟩
   obtain ⟨τ2,eS⟩:=Abp (k+8) (by omega) M1.s.g a
   have eS':G6 (k+12) (Cq I.j) a (μ++[A])=_:=eS
   rw[w9] at eS'
   obtain ⟨s1,s2,s3,s4⟩:=UU hM.inv a
   have M2:=M1.app τ2
   obtain ⟨S,hS⟩:∃ S,A6.cells [.int .i64 (Au m a).1,.int .i64 (Au m a).2.1,.int .i64 (Au m a).2.2] Ag true=S:=⟨_,rfl⟩
   have M3:=M2.app [S]
   have lS:Dg .i64 (μ++[A]++τ2++[S]) (μ++[A]++τ2).length 0=some (Au m a).1:=by rw[← hS,BJ]; rfl
   have l2:L8 (μ++[A]) I.sb 2=some (Cq I.j):=M1.s.kr
   have hassoc:μ++[A]++τ2++[S]=μ++[A]++(τ2++[S]):=List.append_assoc _ _ _
   have lb1:Dg .u8 (μ++[A]++τ2++[S]) μ.length 1=some (y1:Int):=by rw[hassoc]; exact la _ 1 _ rfl
   have lb2:Dg .u8 (μ++[A]++τ2++[S]) μ.length 2=some (y2:Int):=by rw[hassoc]; exact la _ 2 _ rfl
   have mm:Mv I.fl I.fl μ (μ++[A]++τ2++[S]):=((Mv.app _ _ _).trans (Mv.app _ _ _)).trans (Mv.app _ _ _)
   have i0:(0≤(0:Int)∧(0:Int)<((3:Nat):Int))=True:=eq_true (by decide)
   have i1:(0≤(1:Int)∧(1:Int)<((3:Nat):Int))=True:=eq_true (by decide)
   have i2:(0≤(2:Int)∧(2:Int)<((3:Nat):Int))=True:=eq_true (by decide)
   have hh0:(Au m a).1>0→Ea m a=true:=fun h=>by
    unfold Au at h
    split at h
    ·assumption
    ·exact absurd h (by decide)
   show ∃ μ' I' t',BS _ _ _ _ _ _=_∧_
   rw[NR,Iy]
   simp only[sw,Ad,Af,Ae,Nat.zero_add,Nat.add_assoc,Nat.reduceAdd,M.b.Hx.2.2.1,Option.bind_some,decide_eq_true (show (x:Int)<((B.li.n:Nat):Int) by omega),cond_true,decide_eq_true (show (x:Int)<120 by omega),qx,if_true,eq,Int.toNat_natCast,d0,d1,d2,AM,Ab1,hA,i0,Int.toNat_zero,Nat.zero_mul,la0,v0,em0,show ((100:Int)=0)=False from by simp,if_false,eA,Aj,ha,l2,eS',yt,List.length_cons,List.length_nil,List.head?_cons,List.tail_cons,Lm,hS]
   have go:∀ {X:Option Ax},fu m y0 y1 y2=m→X=BS (k+12) f h0 I.sb ((x+1:Nat):Int) (μ++[A]++τ2++[S]) → ∃ μ' I' t',X=some (.exit 4,[],μ')∧Mk lo μ' I' m' t' r I.sb h0 B∧Mv I.fl I'.fl μ μ':=fun hl hX=>by
    rw[hl] at L
    obtain ⟨μ',I',t',e3,M4,m4⟩:=L f _ I t (by omega) M3
    exact ⟨μ',I',t',by rw[hX]; exact e3,M4,mm.trans m4⟩
   by_cases hr:0<(Au m a).1
   rotate_left
   ·have hl:fu m y0 y1 y2=m:=by unfold fu; rw[ha,if_neg hr]
    refine go hl ?_
    have hb:((bif (if Ea m a then (0:Int) else 4) == (0:Int) then (Dg .i64 (μ++[A]++τ2++[S]) (μ++[A]++τ2).length 0).bind fun n83=>some (decide (n83>(0:Int)),μ++[A]++τ2++[S]) else some (false,μ++[A]++τ2++[S])):Option (Bool × Aa))=some (false,μ++[A]++τ2++[S]):=by
     rw[lS]
     simp only[Option.bind_some,decide_eq_false (show ¬ (Au m a).1>0 from hr)]
     cases (if Ea m a then (0:Int) else 4) == (0:Int) <;> rfl
    simp only[hb,Option.bind_some,cond_false,w1]
   ·have hl:fu m y0 y1 y2=(EK m a ((y1:Int).tmod (Au m a).1) (my m (y2 % 100))).2:=by unfold fu; rw[ha,if_pos hr]
    rw[hl] at L
    have hha:=hh0 hr
    have eA2:Bq (k+12) (bq I) ((y2 % 100:Nat):Int) (μ++[A]++τ2++[S])=_:=uz (k+11) M3.s (Nat.mod_lt _ (by decide))
    obtain ⟨μ4,I4,t4,e4,S4,m4,b4⟩:=Afs (k+4) (by omega) M3.s a ((y1:Int).tmod (Au m a).1) (my m (y2 % 100)) (by rw[← ha]; exact hain.1) (uy hM).1
    have M4:=M3.step S4 m4 b4
    obtain ⟨μ',I',t',e5,M5,m5⟩:=L f μ4 I4 t4 (by omega) M4
    refine ⟨μ',I',t', ?_,M5,(mm.trans m4).trans m5⟩
    have hif:(if Ea m a=true then (0:Int) else 4)=0:=by rw[if_pos hha]
    simp only[hif,show ((0:Int) == 0)=true from rfl,cond_true,lS,Option.bind_some,decide_eq_true (show (Au m a).1>0 from hr),i1,if_true,show (1:Int).toNat*1=1 from rfl,lb1,show ((Au m a).1=0)=False from eq_false (by omega),if_false,i2,show (2:Int).toNat*1=2 from rfl,lb2,v2,em2,eA2,Aj,v1,e4,Ar,Bool.not_true,cond_false,w1]
    exact e5
theorem nF (k:Nat) (hk:5000≤k) (B:Bg) (m:HM) (hM:MK m):∀ (n x:Nat) (r:K4),ZX m r→x+n=min B.pl.n 20 →
  ∃ r',ZX m r' ∧ ∀ lo h0 sb,uG lo h0 sb B (fun f=>C6 (k+12) f h0 sb (x:Int)) (.exit 6) n m m r r'
 | 0,x,r,hz,hx=>by
   refine ⟨r,hz,fun lo h0 sb f μ I t hf M=>?_⟩
   obtain ⟨f,rfl⟩:∃ f',f=f'+1:=⟨f-1,by omega⟩
   refine ⟨μ,I,t, ?_,M,Mv.refl _ _⟩
   show C6 _ _ _ _ _ _=_
   rw[NS,Iz]
   simp only[sw,Ad,Af,Ae,Nat.zero_add,M.b.Hx.2.2.2.1,Option.bind_some]
   by_cases q:x<B.pl.n
   ·simp only[decide_eq_true (show (x:Int)<((B.pl.n:Nat):Int) by omega),cond_true,decide_eq_false (show ¬ (x:Int)<20 by omega),Option.bind_some,cond_false]
   ·simp only[decide_eq_false (show ¬ (x:Int)<((B.pl.n:Nat):Int) by omega),cond_false,Option.bind_some]
 | n+1,x,r,hz,hx=>by
   have hz1:ZX m (gR r (B.pl.at (x*2)).toNat (my m ((B.pl.at (x*2+1)).toNat % 100))):=fun v hv=>by
    rcases Ae8 hv with rfl | hv
    ·exact Adj m _
    ·exact hz v hv
   obtain ⟨r',a1,LL⟩:=nF k hk B m hM n (x+1) _ hz1 (by omega)
   refine ⟨r',a1,fun lo h0 sb f μ I t hf M=>?_⟩
   have L:=LL lo h0 sb
   obtain ⟨f,rfl⟩:∃ f',f=f'+1:=⟨f-1,by omega⟩
   have w1:Cf ((x:Int)+1)=((x+1:Nat):Int):=Ak (by unfold AU; omega)
   have hxn:x<B.pl.n:=by omega
   obtain ⟨q,eq,hq,ld⟩:=M.b.pl.ld hxn
   have qx:(0≤(x:Int)∧(x:Int)<((B.pl.n:Nat):Int))=True:=eq_true (by omega)
   have d0:=ld μ rfl 0 (by decide)
   have d1:=ld μ rfl 1 (by decide)
   rw[Nat.add_zero] at d0
   have g0:=M.b.pl.rg (x*2)
   have g1:=M.b.pl.rg (x*2+1)
   obtain ⟨y0,hy0⟩:∃ y:Nat,B.pl.at (x*2)=(y:Int):=⟨(B.pl.at (x*2)).toNat,by omega⟩
   obtain ⟨y1,hy1⟩:∃ y:Nat,B.pl.at (x*2+1)=(y:Int):=⟨(B.pl.at (x*2+1)).toNat,by omega⟩
   rw[hy0,hy1,Int.toNat_natCast,Int.toNat_natCast] at L
   rw[hy0] at d0
   rw[hy1] at d1
   have v0:Cf (y0:Int)=(y0:Int):=Ak (by unfold AU; omega)
   have v1:Cf (y1:Int)=(y1:Int):=Ak (by unfold AU; omega)
   have em1:(y1:Int).tmod 100=((y1 % 100:Nat):Int):=fX y1 100
   have hsb:=M.sb
   subst hsb
   have eA:Bq (k+12) (bq I) ((y1 % 100:Nat):Int) μ=_:=uz (k+11) M.s (Nat.mod_lt _ (by decide))
   obtain ⟨μ4,I4,t4,e4,S4,m4,b4⟩:=Aiq (k+7) M.s (n:=y0) (by omega) (my m (y1 % 100)) (uy hM).1
   have M4:=M.step S4 m4 b4
   obtain ⟨μ',I',t',e5,M5,m5⟩:=L f μ4 I4 t4 (by omega) M4
   refine ⟨μ',I',t', ?_,M5,m4.trans m5⟩
   have i0:(0≤(0:Int)∧(0:Int)<((2:Nat):Int))=True:=eq_true (by decide)
   have i1:(0≤(1:Int)∧(1:Int)<((2:Nat):Int))=True:=eq_true (by decide)
   show C6 _ _ _ _ _ _=_
   rw[NS,Iz]
   simp only[sw,Ad,Af,Ae,Nat.zero_add,M.b.Hx.2.2.2.1,Option.bind_some,decide_eq_true (show (x:Int)<((B.pl.n:Nat):Int) by omega),cond_true,decide_eq_true (show (x:Int)<20 by omega),qx,if_true,eq,Int.toNat_natCast,i0,Int.toNat_zero,Nat.zero_mul,Nat.add_zero,d0,i1,show (1:Int).toNat*1=1 from rfl,d1,v0,v1,em1,show ((100:Int)=0)=False from by simp,if_false,eA,Aj,e4,Ar,Bool.not_true,cond_false,w1]
   exact e5
theorem nG (k:Nat) (hk:5000≤k) (B:Bg) (r:K4):∀ (n x:Nat) (m:HM),MK m→Zc m→ZX m r→x+n=min B.pi.n 8 →
  ∃ m',MK m'∧Zc m'∧ZX m' r∧m'.births=m.births∧m'.bls.length=m.bls.length ∧ ∀ lo h0 sb,uG lo h0 sb B (fun f=>C7 (k+12) f h0 sb (x:Int)) (.exit 8) n m m' r r
 | 0,x,m,hM,hz,hl,hx=>by
   refine ⟨m,hM,hz,hl,rfl,rfl,fun lo h0 sb f μ I t hf M=>?_⟩
   obtain ⟨f,rfl⟩:∃ f',f=f'+1:=⟨f-1,by omega⟩
   refine ⟨μ,I,t, ?_,M,Mv.refl _ _⟩
   show C7 _ _ _ _ _ _=_
   rw[NT,I0]
   simp only[sw,Ad,Af,Ae,Nat.zero_add,M.b.Hx.2.2.2.2,Option.bind_some]
   by_cases q:x<B.pi.n
   ·simp only[decide_eq_true (show (x:Int)<((B.pi.n:Nat):Int) by omega),cond_true,decide_eq_false (show ¬ (x:Int)<8 by omega),Option.bind_some,cond_false]
   ·simp only[decide_eq_false (show ¬ (x:Int)<((B.pi.n:Nat):Int) by omega),cond_false,Option.bind_some]
 | n+1,x,m,hM,hz,hl,hx=>by
   have pl:=kB m (my m ((B.pi.at x).toNat % 100)) 1
   obtain ⟨m',a1,a2,a3,a4,a5,LL⟩:=nG k hk B r n (x+1) _ (hM.lU (my m ((B.pi.at x).toNat % 100)) 1) (hz.lU _ _) (hl.AG (by rw[pl.1]) pl.2.1) (by omega)
   refine ⟨m',a1,a2,a3,a4.trans pl.2.2.2.1,a5.trans (by rw[pl.1]),fun lo h0 sb f μ I t hf M=>?_⟩
   have L:=LL lo h0 sb
   obtain ⟨f,rfl⟩:∃ f',f=f'+1:=⟨f-1,by omega⟩
   have w1:Cf ((x:Int)+1)=((x+1:Nat):Int):=Ak (by unfold AU; omega)
   have hxn:x<B.pi.n:=by omega
   obtain ⟨q,eq,hq,ld⟩:=M.b.pi.ld hxn
   have qx:(0≤(x:Int)∧(x:Int)<((B.pi.n:Nat):Int))=True:=eq_true (by omega)
   have d0:=ld μ rfl 0 (by decide)
   rw[Nat.add_zero,Nat.mul_one] at d0
   have g0:=M.b.pi.rg x
   obtain ⟨y,hy⟩:∃ y:Nat,B.pi.at x=(y:Int):=⟨(B.pi.at x).toNat,by omega⟩
   rw[hy,Int.toNat_natCast] at L
   rw[hy] at d0
   have w0:Cf (y:Int)=(y:Int):=Ak (by unfold AU; omega)
   have em:(y:Int).tmod 100=((y % 100:Nat):Int):=fX y 100
   have eA:Bq (k+12) (bq I) ((y % 100:Nat):Int) μ=_:=uz (k+11) M.s (Nat.mod_lt _ (by decide))
   obtain ⟨σ1,σ2,j',t2,e1,c1,l1,e2,S2,m2⟩:=Acq k hk M.s (my m (y % 100)) (uy hM).1
   have M2:=M.step S2 m2 rfl
   obtain ⟨μ',I',t',e3,M3,m3⟩:=L f σ2 _ t2 (by omega) M2
   refine ⟨μ',I',t', ?_,M3,m2.trans m3⟩
   have l2:L8 μ I.sb 2=some (Cq I.j):=M.s.kr
   have hsb:=M.sb
   subst hsb
   show C7 _ _ _ _ _ _=_
   rw[NT,I0]
   simp only[sw,Ad,Af,Ae,Nat.zero_add,M.b.Hx.2.2.2.2,Option.bind_some,decide_eq_true (show (x:Int)<((B.pi.n:Nat):Int) by omega),cond_true,decide_eq_true (show (x:Int)<8 by omega),qx,if_true,eq,Int.toNat_natCast,Nat.mul_one,d0,w0,em,show ((100:Int)=0)=False from by simp,if_false,eA,Aj,l2,e1,Z7 c1,l1,e2,bne_self_eq_false,cond_false,w1]
   exact e3
theorem Ali (a:Addr):Od P HG (.pointer (some a)) (.pointer none)=some false:=by kernel_rfl
theorem Ale (a:Addr):Od P FL (.pointer (some a)) (.pointer none)=some false:=by kernel_rfl
structure kS (lo:Nat) (σ:Aa) (B:Bg):Prop where
 b0:0≤B.bl∧B.bl<256
 m0:0≤B.mu∧B.mu<256
 ob:Xm lo σ 4 B.ob
 de:Xm lo σ 1 B.de
 li:Xm lo σ 3 B.li
 pl:Xm lo σ 2 B.pl
 pi:Xm lo σ 1 B.pi
theorem kS.GI {lo:Nat} {σ σ':Aa} {B:Bg} (h:kS lo σ B) (hq:∀ q,q<lo→σ'[q]?=σ[q]?):kS lo σ' B:=⟨h.b0,h.m0,h.ob.GI hq,h.de.GI hq,h.li.GI hq,h.pl.GI hq,h.pi.GI hq⟩
theorem Xm.up {lo lo':Nat} {σ:Aa} {w:Nat} {b:BL} (h:Xm lo σ w b) (hl:lo≤lo'):Xm lo' σ w b:=⟨h.len,h.rng,h.at_.imp id fun ⟨q,T,rw',e,h1,h2⟩=>⟨q,T,rw',e,Nat.lt_of_lt_of_le h1 hl,h2⟩⟩
noncomputable def Aej (k:Nat) (B:Bg) (σ:Aa):Option (Value × Aa):=Im k B.bl B.mu (B.ob.p,B.ob.n,B.ob.c) (B.de.p,B.de.n,B.de.c) (B.li.p,B.li.n,B.li.c) (B.pl.p,B.pl.n,B.pl.c) (B.pi.p,B.pi.n,B.pi.c) σ
theorem Afw (k:Nat) (hk:10000≤k) (B:Bg) (hb0:0≤B.bl∧B.bl<256) (hm0:0≤B.mu∧B.mu<256):∃ m r,MK m∧Zc m∧ZX m r∧m.births≤40 ∧ ∀ lo σ,kS lo σ B→lo≤σ.length →
  ∃ σ' I t,Aej (k+14) B σ=some (.pointer (bq I),σ')∧Sn σ' I m m t r r∧(∀ q ∈ I.fl,σ.length≤q)∧σ.length≤σ'.length ∧ ∀ q,q<σ.length→σ'[q]?=σ[q]?:=by
 have e23:=Int.tmod_nonneg 23 hb0.1
 have e23':=Int.tmod_lt_of_pos B.bl (show (0:Int)<23 by decide)
 have e4:=Int.tmod_nonneg 4 hm0.1
 have e4':=Int.tmod_lt_of_pos B.mu (show (0:Int)<4 by decide)
 obtain ⟨nb,hnb⟩:∃ nb:Nat,2+B.bl.tmod 23=(nb:Int):=⟨(2+B.bl.tmod 23).toNat,by omega⟩
 obtain ⟨mu,hmu⟩:∃ mu:Nat,1+B.mu.tmod 4=(mu:Int):=⟨(1+B.mu.tmod 4).toNat,by omega⟩
 have hM0:MK (My nb):=MK.new (by omega) (by omega)
 obtain ⟨r0,hr0⟩:∃ r0:K4,(⟨mu,List.replicate (16*mu) 0,List.replicate 16 0,[]⟩:K4)=r0:=⟨_,rfl⟩
 have hL0:∀ m,ZX m r0:=fun m v hv=>by
  rw[← hr0] at hv
  unfold K4.all at hv
  simp only[List.mem_append,List.mem_replicate,List.not_mem_nil,or_false] at hv
  exact .inl (by rcases hv with hv | hv <;> exact hv.2)
 obtain ⟨m1,A1,A2,A3,A4,L0⟩:=nC k (by omega) B r0 (min B.ob.n 40) 0 (My nb) hM0 (T8.new nb) (by simp[My]) (by omega)
 obtain ⟨m2,B1,B2,B3,B4,L1⟩:=nD (k+1) (by omega) B r0 (min B.de.n 20) 0 m1 A1 A2 (by omega)
 obtain ⟨m3,C1,C2,C3,C4,L2⟩:=nE (k+1) (by omega) B r0 (min B.li.n 120) 0 m2 B1 B2.s (by omega)
 obtain ⟨r4,D1,L3⟩:=nF (k+1) (by omega) B m3 C1 (min B.pl.n 20) 0 r0 (hL0 m3) (by omega)
 obtain ⟨m5,E1,E2,E3,E4,E5,L4⟩:=nG (k+1) (by omega) B r4 (min B.pi.n 8) 0 m3 C1 C2 D1 (by omega)
 refine ⟨m5,r4,E1,E2,E3,by rw[E4,C3,B3]; exact A3,fun lo σ hB hlo=>?_⟩
 obtain ⟨BX,hBX⟩:∃ BX,A6.cells [.int .u8 B.bl,.int .u8 B.mu,.slice B.ob.p B.ob.n B.ob.c,.slice B.de.p B.de.n B.de.c,.slice B.li.p B.li.n B.li.c,.slice B.pl.p B.pl.n B.pl.c,.slice B.pi.p B.pi.n B.pi.c] DC true=BX:=⟨_,rfl⟩
 have c0:(σ++[BX])[σ.length]?=some BX:=by simp
 have l0:(σ++[BX]).length=σ.length+1:=by simp
 obtain ⟨σ1,i,e1,h1,lo1,k1⟩:=Aim (k+8) (n:=nb) (by omega) (by omega) (σ++[BX])
 have e1':JA (k+13) (nb:Int) (σ++[BX])=_:=e1
 have len1:=k1.len
 have q1:∀ q,q<σ.length+1→σ1[q]?=(σ++[BX])[q]?:=fun q hq=>k1.same q (by omega) fun hm=>by have:=lo1 q hm; omega
 obtain ⟨τ2,p,e2,h2,lo2⟩:=Ajj (k+12) (n:=mu) (by omega) (by omega) σ1
 have e2':HN (k+13) (mu:Int) σ1=_:=e2
 rw[hr0] at h2
 obtain ⟨A,hA⟩:∃ A,σ1++τ2=A:=⟨_,rfl⟩
 rw[hA] at e2' h2
 have lA:A.length=σ1.length+τ2.length:=by rw[← hA]; simp
 have qA:∀ q,q<σ1.length→A[q]?=σ1[q]?:=fun q hq=>by rw[← hA,List.getElem?_append_left hq]
 obtain ⟨S0,hS0⟩:∃ S0,A6.cells [.pointer (AV i),.pointer (Nc p),.pointer none,.pointer none] BH true=S0:=⟨_,rfl⟩
 obtain ⟨τ4,j,e4,h4,lo4⟩:=Ag6 (k+12) (n:=nb) (by omega) (by omega) (A++[S0])
 have e4':PE (k+13) (nb:Int) (A++[S0])=_:=e4
 obtain ⟨C,hC⟩:∃ C,A++[S0]++τ4=C:=⟨_,rfl⟩
 rw[hC] at e4' h4
 have lC:C.length=A.length+1+τ4.length:=by rw[← hC]; simp; omega
 have cC:C[A.length]?=some S0:=by rw[← hC,List.getElem?_append_left (by simp)]; simp
 have qC:∀ q,q<A.length→C[q]?=A[q]?:=fun q hq=>by rw[← hC,List.append_assoc,List.getElem?_append_left hq]
 have s4:K3 C A.length 2 (.pointer (Cq j))=some (C.set A.length (.cells [.pointer (AV i),.pointer (Nc p),.pointer (Cq j),.pointer none] BH true)):=by
  rw[← hS0] at cC; simp[K3,cC]
 obtain ⟨D,hD⟩:∃ D,C.set A.length (.cells [.pointer (AV i),.pointer (Nc p),.pointer (Cq j),.pointer none] BH true)=D:=⟨_,rfl⟩
 rw[hD] at s4
 have lD:D.length=C.length:=by rw[← hD]; simp
 have cD:D[A.length]?=some (.cells [.pointer (AV i),.pointer (Nc p),.pointer (Cq j),.pointer none] BH true):=by rw[← hD,List.getElem?_set_self (by omega)]
 have qD:∀ q,q≠A.length→D[q]?=C[q]?:=fun q hq=>by rw[← hD,List.getElem?_set_ne (Ne.symm hq)]
 obtain ⟨τ6,q,e6,h6,lo6⟩:=Aji (k+11) (by omega) (n:=mu) (by omega) (by omega) D
 have e6':PF (k+13) (mu:Int) D=_:=e6
 rw[hr0] at h6
 obtain ⟨E,hE⟩:∃ E,D++τ6=E:=⟨_,rfl⟩
 rw[hE] at e6' h6
 have qE:∀ q,q<D.length→E[q]?=D[q]?:=fun q hq=>by rw[← hE,List.getElem?_append_left hq]
 have lE:D.length≤E.length:=by rw[← hE]; simp
 have cE:=(qE A.length (by omega)).trans cD
 have s6:K3 E A.length 3 (.pointer (Y0 q))=some (E.set A.length (.cells [.pointer (AV i),.pointer (Nc p),.pointer (Cq j),.pointer (Y0 q)] BH true)):=by simp[K3,cE]
 obtain ⟨F,hF⟩:∃ F,E.set A.length (.cells [.pointer (AV i),.pointer (Nc p),.pointer (Cq j),.pointer (Y0 q)] BH true)=F:=⟨_,rfl⟩
 rw[hF] at s6
 have lF:F.length=E.length:=by rw[← hF]; simp
 have cF:F[A.length]?=some (.cells [.pointer (AV i),.pointer (Nc p),.pointer (Cq j),.pointer (Y0 q)] BH true):=by rw[← hF,List.getElem?_set_self (by omega)]
 have qF:∀ x,x≠A.length→F[x]?=E[x]?:=fun x hx=>by rw[← hF,List.getElem?_set_ne (Ne.symm hx)]
 have low:∀ x,x<A.length→F[x]?=A[x]?:=fun x hx=>by rw[qF x (by omega),qE x (by omega),qD x (by omega),qC x hx]
 have li:=h1.lt
 have lp:=h2.lt
 have lj:=h4.lt
 have lq:=h6.lt
 have S:Sn F ⟨A.length,i,j,p,q⟩ (My nb) (My nb) ⟨List.replicate nb (0,0),[],[],0⟩ r0 r0:=by
  refine ⟨cF,h1.AG fun x hx=>?_,hM0,⟨h4.AG (fun x hx=>?_) (by omega),Zd.new nb,Inv.new nb,Inv2.new nb,hM0.sh.wl,hM0.nb,hM0.nt⟩,OI.new nb,hM0,h2.AG fun x hx=>low x (lp x hx),h6.AG fun x hx=>?_,⟨?_,fun L hL x hx=>?_⟩⟩
  ·have:=li x hx
   rw[low x (by omega),qA x this]
  ·have g1:=lo4 x hx
   have g2:=lj x hx
   rw[List.length_append,List.length_singleton] at g1
   rw[qF x (by omega),qE x (by omega),qD x (by omega)]
  ·have g1:=lo6 x hx
   rw[qF x (by omega)]
  ·have d1:∀ x ∈ i.l,x<σ1.length:=li
   have d2:∀ x ∈ p.l,σ1.length≤x∧x<A.length:=fun x hx=>⟨lo2 x hx,lp x hx⟩
   have d3:∀ x ∈ j.l,A.length<x∧x<D.length:=fun x hx=>by
    have g1:=lo4 x hx
    have g2:=lj x hx
    rw[List.length_append,List.length_singleton] at g1
    omega
   have d4:∀ x ∈ q.l,D.length≤x:=lo6
   show [i.l,j.l,p.l,q.l,[A.length]].Pairwise Dj
   simp only[List.pairwise_cons,List.mem_cons,List.not_mem_nil,or_false,forall_eq_or_imp,forall_eq,List.Pairwise.nil,and_true,false_implies,implies_true]
   refine ⟨⟨?_, ?_, ?_, ?_⟩,⟨?_, ?_, ?_⟩,⟨?_, ?_⟩, ?_⟩
   ·exact fun x hx hm=>by have:=d1 x hx; have:=d3 x hm; omega
   ·exact fun x hx hm=>by have:=d1 x hx; have:=d2 x hm; omega
   ·exact fun x hx hm=>by have:=d1 x hx; have:=d4 x hm; omega
   ·exact fun x hx hm=>by have:=d1 x hx; have:=List.mem_singleton.1 hm; omega
   ·exact fun x hx hm=>by have:=d3 x hx; have:=d2 x hm; omega
   ·exact fun x hx hm=>by have:=d3 x hx; have:=d4 x hm; omega
   ·exact fun x hx hm=>by have:=d3 x hx; have:=List.mem_singleton.1 hm; omega
   ·exact fun x hx hm=>by have:=d2 x hx; have:=d4 x hm; omega
   ·exact fun x hx hm=>by have:=d2 x hx; have:=List.mem_singleton.1 hm; omega
   ·exact fun x hx hm=>by have:=d4 x hx; have:=List.mem_singleton.1 hm; omega
  ·have hL:L ∈ [i.l,j.l,p.l,q.l,[A.length]]:=hL
   simp only[List.mem_cons,List.not_mem_nil,or_false] at hL
   rcases hL with rfl | rfl | rfl | rfl | rfl
   ·have:=li x hx; omega
   ·have:=lj x hx; omega
   ·have:=lp x hx; omega
   ·have:=lq x hx; omega
   ·have:=List.mem_singleton.1 hx; omega
 have qlow:∀ x,x<σ.length+1→F[x]?=(σ++[BX])[x]?:=fun x hx=>by rw[low x (by omega),qA x (by omega),q1 x hx]
 have qlow0:∀ x,x<σ.length→F[x]?=σ[x]?:=fun x hx=>by rw[qlow x (by omega),List.getElem?_append_left hx]
 have hBF:=hB.GI (σ':=F) fun x hx=>qlow0 x (by omega)
 have M0:Mk (σ.length+1) F ⟨A.length,i,j,p,q⟩ (My nb) ⟨List.replicate nb (0,0),[],[],0⟩ r0 A.length σ.length B:=by
  refine ⟨S,rfl,⟨by rw[qlow _ (by omega),c0,← hBX],by omega,hb0,hm0,hBF.ob.up (by omega),hBF.de.up (by omega),hBF.li.up (by omega),hBF.pl.up (by omega),hBF.pi.up (by omega)⟩,fun x hx=>?_,by omega⟩
  obtain ⟨L,hL,hx⟩:=List.mem_flatten.1 hx
  have hL:L ∈ [i.l,j.l,p.l,q.l,[A.length]]:=hL
  simp only[List.mem_cons,List.not_mem_nil,or_false] at hL
  rcases hL with rfl | rfl | rfl | rfl | rfl
  ·have:=lo1 x hx; omega
  ·have:=lo4 x hx; rw[List.length_append] at this; omega
  ·have:=lo2 x hx; omega
  ·have:=lo6 x hx; omega
  ·have:=List.mem_singleton.1 hx; omega
 obtain ⟨μ1,I1,t1,f1,M1,v1⟩:=L0 (σ.length+1) σ.length A.length (k+13) F _ _ (by omega) M0
 obtain ⟨μ2,I2,t2,f2,M2,v2⟩:=L1 (σ.length+1) σ.length A.length (k+13) μ1 _ _ (by omega) M1
 obtain ⟨μ3,I3,t3,f3,M3,v3⟩:=L2 (σ.length+1) σ.length A.length (k+13) μ2 _ _ (by omega) M2
 obtain ⟨μ4,I4,t4,f4,M4,v4⟩:=L3 (σ.length+1) σ.length A.length (k+13) μ3 _ _ (by omega) M3
 obtain ⟨μ5,I5,t5,f5,M5,v5⟩:=L4 (σ.length+1) σ.length A.length (k+13) μ4 _ _ (by omega) M4
 have vv:=(((v1.trans v2).trans v3).trans v4).trans v5
 refine ⟨μ5,I5,t5, ?_,M5.s,fun x hx=>by have:=M5.new x hx; omega,by have:=M5.ll; omega,fun x hx=>(M0.low vv x (by omega)).trans (qlow0 x hx)⟩
 have wb:Cf B.bl=B.bl:=Ak (by unfold AU; omega)
 have wm:Cf B.mu=B.mu:=Ak (by unfold AU; omega)
 have wn:Cf (nb:Int)=(nb:Int):=Ak (by unfold AU; omega)
 have wu:Cf (mu:Int)=(mu:Int):=Ak (by unfold AU; omega)
 have x0:Dg .u8 (σ++[BX]) σ.length 0=some B.bl:=by rw[← hBX,BJ]; rfl
 have x1:Dg .u8 (σ++[BX]) σ.length 1=some B.mu:=by rw[← hBX,BJ]; rfl
 have f1':C0 (k+13) (k+13) σ.length A.length 0 F=_:=f1
 have f2':C5 (k+13) (k+13) σ.length A.length 0 μ1=_:=f2
 have f3':BS (k+13) (k+13) σ.length A.length 0 μ2=_:=f3
 have f4':C6 (k+13) (k+13) σ.length A.length 0 μ3=_:=f4
 have f5':C7 (k+13) (k+13) σ.length A.length 0 μ4=_:=f5
 unfold Aej
 rw[aL,OP]
 simp only[sw,Ad,Af,Ae,AM,hBX,Nat.zero_add,Nat.reduceAdd,x0,x1,Option.bind_some,wb,wm,hnb,hmu,wn,wu,show ((23:Int)=0)=False from by simp,show ((4:Int)=0)=False from by simp,if_false,e1',ZH,e2',Ale,cond_false,Akh,bne_self_eq_false,hS0,e4',s4,e6',s6,f1',f2',f3',f4',f5',if_true]
 unfold bq
 rw[M5.sb]
end Go.Proofs.YtjbledomkmdkmaaGreat
end
section
namespace Go.Proofs.YtjbledomkmdkmaaGreat
open Go Go.AX
noncomputable local instance qGX:A9:=Aw
local instance nGX:Kn:=⟨true⟩
variable {σ:Aa} {m:HM} {r:K4} {s:TC} {i:DD} {p:PI}
theorem uL.new {nb:Nat} (look:Bool) (born:Int):uL nb (ja nb look born):=
 ⟨by simp[ja],Nat.zero_le _,fun v hv=>by simp[ja] at hv,Nat.zero_le _,fun _=>rfl,fun _=>rfl⟩
theorem Ab6 (k:Nat) (hk:10≤k) (h:An σ i m) (hM:MK m) (hr:Mj σ p r) (hd:Fp σ [i.l,p.l]) (look:Bool) (born:Int):
  ∃ τ c,PK (k+5) (AV i) (Nc p) look born σ=some (.tuple #[.pointer (Hy c),.int .i64 0],σ++τ)∧RC (σ++τ) i p c m r (ja m.bls.length look born) ∧ ∀ q ∈ c.l,σ.length≤q:=by
 have hnb:=hM.nb
 have hnt:=hM.nt
 have hm1:=hr.ok.m1
 have eB:∀ μ,An μ i m→Av (k+4) (AV i) μ=some (.int .i64 ((m.bls.length:Nat):Int),μ):=fun μ hμ=>Pt (k+2) hμ
 have eM:CY (k+4) (Nc p) σ=_:=uI (k+2) hr
 obtain ⟨S0,hS0⟩:∃ S0,A6.cells [.pointer (AV i),.pointer (Nc p),.bool look,.int .i64 born,.int .i64 (0:Int),.pointer none,.slice none 0 0,.slice none 0 0,.int .i64 (0:Int)] HS true=S0:=⟨_,rfl⟩
 have h1:=h.app [S0]
 have e1:((m.bls.length:Nat):Int)*64=((64*m.bls.length:Nat):Int):=by omega
 have e2:Cf ((64*m.bls.length:Nat):Int)=((64*m.bls.length:Nat):Int):=Ak (by unfold AU; omega)
 have e3:((64*m.bls.length:Nat):Int).tdiv 2=((32*m.bls.length:Nat):Int):=by rw[show ((2:Int))=((2:Nat):Int) from rfl,sJ]; congr 1; omega
 have e4:Cf ((32*m.bls.length:Nat):Int)=((32*m.bls.length:Nat):Int):=Ak (by unfold AU; omega)
 obtain ⟨τ,tb,wb,e5,ht,lt1,lt2,hne⟩:=ue k hk (e:=32*m.bls.length) (by omega) (by omega) (σ++[S0])
 rw[List.length_append,List.length_singleton] at lt1 lt2
 have tl:=ht.lt
 have c0:(σ++[S0]++τ)[σ.length]?=some S0:=by rw[List.getElem?_append_left (by simp)]; simp
 have es:K3 (σ++[S0]++τ) σ.length 5 (.pointer (some ⟨tb,0,none⟩))=some ((σ++[S0]++τ).set σ.length (.cells (Hh ⟨σ.length,tb,wb,(none,0,0),(none,0,0)⟩ i.hb p.rb (ja m.bls.length look born)) HS true)):=by
  rw[← hS0] at c0 ⊢
  simp only[K3,c0]
  rfl
 obtain ⟨F,hF⟩:∃ F,(σ++[S0]++τ).set σ.length (.cells (Hh ⟨σ.length,tb,wb,(none,0,0),(none,0,0)⟩ i.hb p.rb (ja m.bls.length look born)) HS true)=F:=⟨_,rfl⟩
 rw[hF] at es
 have lF:F.length=σ.length+1+τ.length:=by rw[← hF,List.length_set,List.length_append,List.length_append,List.length_singleton]
 have low:∀ q,q<σ.length→F[q]?=σ[q]?:=fun q hq=>by rw[← hF,List.getElem?_set_ne (by omega),List.append_assoc,List.getElem?_append_left hq]
 obtain ⟨τ',hτ'⟩:∃ τ',F=σ++τ':=Se (by omega) low
 refine ⟨τ',⟨σ.length,tb,wb,(none,0,0),(none,0,0)⟩, ?_, ?_,fun q hq=>?_⟩
 ·rw[iF,dz]
  simp only[sw,Ad,Af,Ae,eB _ h,Option.bind_some,Aj,decide_eq_false (show ¬ ((m.bls.length:Nat):Int)≤0 by omega),cond_false,eM,show (((r.mu:Nat):Int) == 0)=false from by rw[beq_eq_false_iff_ne]; omega,AM,hS0,eB _ h1,e1,e2,e3,e4,show ((2:Int)=0)=False from by simp,if_false,e5,ZH,Nat.zero_add,es,hτ']
 ·rw[← hτ']
  have co:Gq F ⟨σ.length,tb,wb,(none,0,0),(none,0,0)⟩ i.hb p.rb m.bls.length (ja m.bls.length look born):=by
   refine ⟨by rw[← hF]; exact List.getElem?_set_self (by rw[List.length_append,List.length_append,List.length_singleton]; omega),ht.same (by rw[← hF]; exact List.getElem?_set_ne (by omega)) (by rw[← hF]; exact List.getElem?_set_ne (by omega)),B6.nil _,B6.nil _,⟨by show σ.length≠tb; omega,by show σ.length≠wb; omega,hne,fun q hq=>by simp[hs] at hq,fun q hq=>by simp[hs] at hq⟩⟩
  refine ⟨h.AG fun q hq=>low q (h.lt q hq),hM,hr.AG fun q hq=>low q (hr.lt q hq),co, ?_,uL.new look born⟩
  have hc:∀ q ∈ (⟨σ.length,tb,wb,(none,0,0),(none,0,0)⟩:CI).l,σ.length≤q:=fun q hq=>by
   rcases CI.mem hq with hq | hq | hq | hq | hq
   ·exact Nat.le_of_eq hq.symm
   ·have hq:q=tb:=hq; omega
   ·have hq:q=wb:=hq; omega
   ·simp[hs] at hq
   ·simp[hs] at hq
  have hF':=hd.cons (σ':=F) (L:=(⟨σ.length,tb,wb,(none,0,0),(none,0,0)⟩:CI).l) (fun q hq=>⟨hc q hq,co.lt q hq⟩) (by omega)
  exact hF'.sub [1,2,0] (by decide) (by simp) rfl
 ·rcases CI.mem hq with hq | hq | hq | hq | hq
  ·exact Nat.le_of_eq hq.symm
  ·have hq:q=tb:=hq; omega
  ·have hq:q=wb:=hq; omega
  ·simp[hs] at hq
  ·simp[hs] at hq
structure XI where
 xb:Nat
 kb:Nat
 I:Sv
 c:CI
def XI.Ls (X:XI):List (List Nat):=[X.I.i.l,X.I.p.l,X.c.l,[X.xb],[X.kb],[X.I.sb]]
abbrev Ak2 (X:XI):Option Addr:=some ⟨X.xb,0,none⟩
abbrev iV (X:XI):Option Addr:=some ⟨X.kb,0,none⟩
structure iu (σ:Aa) (X:XI) (m:HM) (r:K4) (s:TC):Prop where
 run:σ[X.xb]?=some (.cells [.pointer (bq X.I),.pointer (iV X),.slice none 0 0,.slice none 0 0,.int .i64 0] MG true)
 col:σ[X.kb]?=some (.cells [.pointer (Hy X.c)] Rq true)
 sc:σ[X.I.sb]?=some (.cells (JX X.I) BH true)
 t:RC σ X.I.i X.I.p X.c m r s
 fp:Fp σ X.Ls
variable {X:XI}
theorem iu.GJ (h:iu σ X m r s):L8 σ X.xb 1=some (iV X):=by simp[L8,Gi,h.run,NJ]
theorem iu.K2 (h:iu σ X m r s):L8 σ X.xb 0=some (bq X.I):=by simp[L8,Gi,h.run,NJ]
theorem iu.ldH (h:iu σ X m r s):L8 σ X.I.sb 0=some (AV X.I.i):=by simp[L8,Gi,h.sc,JX,NJ]
theorem iu.AG {σ':Aa} (h:iu σ X m r s) (hl:σ.length≤σ'.length) (hq:∀ L ∈ X.Ls,∀ q ∈ L,σ'[q]?=σ[q]?):iu σ' X m r s:=
 ⟨(hq [X.xb] (by simp[XI.Ls]) _ (by simp)).trans h.run,(hq [X.kb] (by simp[XI.Ls]) _ (by simp)).trans h.col,(hq [X.I.sb] (by simp[XI.Ls]) _ (by simp)).trans h.sc,h.t.AG hl (hq _ (by simp[XI.Ls])) (hq _ (by simp[XI.Ls])) (hq _ (by simp[XI.Ls])),⟨h.fp.dj,fun L hL q hm=>Nat.lt_of_lt_of_le (h.fp.lt L hL q hm) hl⟩⟩
theorem iu.app (h:iu σ X m r s) (τ:Aa):iu (σ++τ) X m r s:=h.AG (by simp) fun L hL q hq=>List.getElem?_append_left (h.fp.lt L hL q hq)
theorem iu.core (k:Nat) (h:iu σ X m r s):Ao (k+1) (iV X) σ=some (.pointer (Hy X.c),σ):=by
 have l0:L8 σ X.kb 0=some (Hy X.c):=by simp[L8,Gi,h.col,NJ]
 rw[Ob,IB]
 simp only[sw,Ad,Af,Ae,show Od P FM (.pointer (iV X)) (.pointer none)=some false from by kernel_rfl,Option.bind_some,cond_false,Nat.zero_add,l0]
theorem iu.turn {σ':Aa} {c':CI} {m':HM} {s':TC} (h:iu σ X m r s) (T:RC σ' X.I.i X.I.p c' m' r s') (hm:Mv (X.I.i.l++X.c.l) (X.I.i.l++c'.l) σ σ') (hc:c'.cb=X.c.cb):
  iu σ' { X with c:=c' } m' r s'∧Mv X.Ls.flatten ({ X with c:=c' }:XI).Ls.flatten σ σ':=by
 have dj:=fun {a b:Nat} (ha:a<X.Ls.length) (hb:b<X.Ls.length) (hne:b≠a)=>h.fp.ne ha hb hne
 have GI:∀ y (hy:y<X.Ls.length),y≠0→y≠2→(∀ q ∈ X.Ls[y],σ'[q]?=σ[q]?)∧(∀ q ∈ X.Ls[y],q ∉ X.I.i.l++c'.l) ∧ ∀ q ∈ X.Ls[y],q<σ'.length:=fun y hy h0 h2=>hm.GI (fun q hq=>h.fp.lt _ (List.getElem_mem hy) q hq) fun q hq hm'=>by
  rcases List.mem_append.1 hm' with hm' | hm'
  ·exact h.fp.ne (x:=y) (y:=0) hy (by simp[XI.Ls]) (Ne.symm h0) q hq hm'
  ·exact h.fp.ne (x:=y) (y:=2) hy (by simp[XI.Ls]) (Ne.symm h2) q hq hm'
 obtain ⟨a3,b3,g3⟩:=GI 3 (by simp[XI.Ls]) (by decide) (by decide)
 obtain ⟨a4,b4,g4⟩:=GI 4 (by simp[XI.Ls]) (by decide) (by decide)
 obtain ⟨a5,b5,g5⟩:=GI 5 (by simp[XI.Ls]) (by decide) (by decide)
 have xb:=a3 X.xb (by simp[XI.Ls])
 have kb:=a4 X.kb (by simp[XI.Ls])
 have sb:=a5 X.I.sb (by simp[XI.Ls])
 have D:∀ {a b:Nat} (ha:a<6) (hb:b<6),b≠a→Dj (X.Ls[a]'(by simpa [XI.Ls] using ha)) (X.Ls[b]'(by simpa [XI.Ls] using hb)):=fun ha hb hne=>h.fp.ne _ _ hne
 refine ⟨⟨xb.trans h.run, ?_,sb.trans h.sc,T,⟨?_,fun L hL q hq=>?_⟩⟩,hm.wide (fun q hq=>?_) fun q hq=>?_⟩
 ·rw[kb,h.col]; unfold Hy; rw[hc]
 ·have t01:=T.fp.ne (x:=0) (y:=1) (by simp) (by simp) (by decide)
  have t02:=T.fp.ne (x:=0) (y:=2) (by simp) (by simp) (by decide)
  have t12:=T.fp.ne (x:=1) (y:=2) (by simp) (by simp) (by decide)
  have o3:X.xb ∉ X.I.i.l++c'.l:=b3 _ (by simp[XI.Ls])
  have o4:X.kb ∉ X.I.i.l++c'.l:=b4 _ (by simp[XI.Ls])
  have o5:X.I.sb ∉ X.I.i.l++c'.l:=b5 _ (by simp[XI.Ls])
  have sg:∀ {L:List Nat} {q:Nat},q ∉ L→Dj L [q]:=fun hn x hx hm'=>hn (by rw[← List.mem_singleton.1 hm']; exact hx)
  have p3:Dj X.I.p.l [X.xb]:=D (a:=1) (b:=3) (by decide) (by decide) (by decide)
  have p4:Dj X.I.p.l [X.kb]:=D (a:=1) (b:=4) (by decide) (by decide) (by decide)
  have p5:Dj X.I.p.l [X.I.sb]:=D (a:=1) (b:=5) (by decide) (by decide) (by decide)
  have q34:Dj [X.xb] [X.kb]:=D (a:=3) (b:=4) (by decide) (by decide) (by decide)
  have q35:Dj [X.xb] [X.I.sb]:=D (a:=3) (b:=5) (by decide) (by decide) (by decide)
  have q45:Dj [X.kb] [X.I.sb]:=D (a:=4) (b:=5) (by decide) (by decide) (by decide)
  show [X.I.i.l,X.I.p.l,c'.l,[X.xb],[X.kb],[X.I.sb]].Pairwise Dj
  have n1:∀ {q},q ∉ X.I.i.l++c'.l→q ∉ X.I.i.l:=fun hn hm'=>hn (List.mem_append.2 (.inl hm'))
  have n2:∀ {q},q ∉ X.I.i.l++c'.l→q ∉ c'.l:=fun hn hm'=>hn (List.mem_append.2 (.inr hm'))
  simp only[List.pairwise_cons,List.mem_cons,List.not_mem_nil,or_false,forall_eq_or_imp,forall_eq,List.Pairwise.nil,and_true,false_implies,implies_true]
  exact ⟨⟨t01,t02,sg (n1 o3),sg (n1 o4),sg (n1 o5)⟩,⟨t12,p3,p4,p5⟩,⟨sg (n2 o3),sg (n2 o4),sg (n2 o5)⟩,⟨q34,q35⟩,q45⟩
 ·have hL:L ∈ [X.I.i.l,X.I.p.l,c'.l,[X.xb],[X.kb],[X.I.sb]]:=hL
  simp only[List.mem_cons,List.not_mem_nil,or_false] at hL
  rcases hL with rfl | rfl | rfl | rfl | rfl | rfl
  ·exact T.h.lt q hq
  ·exact T.rt.lt q hq
  ·exact T.co.lt q hq
  ·exact g3 q (by simpa [XI.Ls] using hq)
  ·exact g4 q (by simpa [XI.Ls] using hq)
  ·exact g5 q (by simpa [XI.Ls] using hq)
 ·rcases List.mem_append.1 hq with hq | hq
  ·exact List.mem_flatten.2 ⟨_,by simp[XI.Ls],hq⟩
  ·exact List.mem_flatten.2 ⟨X.c.l,by simp[XI.Ls],hq⟩
 ·obtain ⟨L,hL,hq⟩:=List.mem_flatten.1 hq
  have hL:L ∈ [X.I.i.l,X.I.p.l,c'.l,[X.xb],[X.kb],[X.I.sb]]:=hL
  simp only[List.mem_cons,List.not_mem_nil,or_false] at hL
  rcases hL with rfl | rfl | rfl | rfl | rfl | rfl
  ·exact .inl (List.mem_flatten.2 ⟨_,by simp[XI.Ls],hq⟩)
  ·exact .inl (List.mem_flatten.2 ⟨X.I.p.l,by simp[XI.Ls],hq⟩)
  ·exact .inr (.inl (List.mem_append.2 (.inr hq)))
  ·exact .inl (List.mem_flatten.2 ⟨[X.xb],by simp[XI.Ls],hq⟩)
  ·exact .inl (List.mem_flatten.2 ⟨[X.kb],by simp[XI.Ls],hq⟩)
  ·exact .inl (List.mem_flatten.2 ⟨[X.I.sb],by simp[XI.Ls],hq⟩)
def XG (mm:Option (Value × Aa)) (σ:Aa) (X:XI) (r:K4) (v:Value) (q:HM × TC):Prop:=
 ∃ σ' X',mm=some (v,σ')∧iu σ' X' q.1 r q.2∧Mv X.Ls.flatten X'.Ls.flatten σ σ'∧X'.xb=X.xb∧X'.kb=X.kb
theorem Aak (k:Nat) (hk:5000≤k) (h:iu σ X m r s) (hp:s.ph=0) (hs:dk m r=true):XG (BF (k+14) (iV X) σ) σ X r (.int .i64 0) (m,ui m r s):=by
 obtain ⟨σ',c',e,T,hm,hc⟩:=Acx k hk h.t hp hs
 obtain ⟨h',m'⟩:=h.turn T hm hc
 refine ⟨σ',_, ?_,h',m',rfl,rfl⟩
 rw[Np,HC]
 have ec:Ao (k+13) (iV X) σ=_:=h.core (k+12)
 simp only[sw,Ad,Af,Ae,ec,Option.bind_some,NJ,e,Aj]
theorem Ado (k:Nat) (hk:20000≤k) (h:iu σ X m r s) {N:Nat} (h1:1≤N) (hN:N≤10000):XG (Bl (k+17) (iV X) (N:Int) σ) σ X r (.tuple #[.int .i64 ((EY r N (m,s)).1:Int),.int .i64 0]) (EY r N (m,s)).2:=by
 obtain ⟨σ',c',e,T,hm,hc⟩:=Af3 k hk h.t h1 hN
 obtain ⟨h',m'⟩:=h.turn T hm hc
 refine ⟨σ',_, ?_,h',m',rfl,rfl⟩
 rw[Oa,IA]
 have ec:Ao (k+16) (iV X) σ=_:=h.core (k+15)
 simp only[sw,Ad,Af,Ae,ec,Option.bind_some,NJ,e,Fs]
theorem Aaj (k:Nat) (h:iu σ X m r s):BE (k+3) (iV X) σ=some (.int .i64 s.ph,σ):=by
 rw[Nn,HB]
 have ec:Ao (k+2) (iV X) σ=_:=h.core (k+1)
 have ep:GC (k+2) (Hy X.c) σ=some (.int .i64 s.ph,σ):=by
  rw[Ug,MX]
  simp only[sw,Ad,Af,Ae,Yb k h.t.co,Option.bind_some,Ar,Bool.not_true,cond_false,Nat.zero_add,Nat.add_zero,h.t.co.ld4]
 simp only[sw,Ad,Af,Ae,ec,Option.bind_some,NJ,ep,Aj]
theorem Adn (k:Nat) (h:iu σ X m r s):∃ l τ,BU (k+3) (iV X) σ=some (.slice l.1 l.2.1 l.2.2,σ++τ)∧B6 (σ++τ) l s.list:=by
 have hnt:=h.t.mo.nt
 have hlen:=h.t.tok.len
 obtain ⟨l,τ,ec2,li,_⟩:=iD k X.c.ls.1 s.list.length s.list (by omega) h.t.co.ls.holds
 refine ⟨l,τ, ?_,li⟩
 rw[NZ,I9]
 have ec:Ao (k+2) (iV X) σ=_:=h.core (k+1)
 have ep:Hv (k+2) (Hy X.c) σ=some (.slice l.1 l.2.1 l.2.2,σ++τ):=by
  rw[V8,Oz]
  have em:A8 (k+1) (Hy X.c) σ=_:=Yb k h.t.co
  simp only[sw,Ad,Af,Ae,em,Option.bind_some,Ar,Bool.not_true,cond_false,Nat.zero_add,Nat.add_zero,h.t.co.ld6,ec2,H7]
 simp only[sw,Ad,Af,Ae,ec,Option.bind_some,NJ,ep,H7]
theorem Adm (k:Nat) (h:iu σ X m r s):∃ l τ,Fe (k+3) (iV X) σ=some (.slice l.1 l.2.1 l.2.2,σ++τ)∧B6 (σ++τ) l s.left:=by
 have hlf:=h.t.tok.lf
 obtain ⟨l,τ,ec2,li,_⟩:=iD k X.c.lf.1 s.left.length s.left (by omega) h.t.co.lf.holds
 refine ⟨l,τ, ?_,li⟩
 rw[Xz,LC]
 have ec:Ao (k+2) (iV X) σ=_:=h.core (k+1)
 have ep:Lq (k+2) (Hy X.c) σ=some (.slice l.1 l.2.1 l.2.2,σ++τ):=by
  rw[gu,TF]
  have em:A8 (k+1) (Hy X.c) σ=_:=Yb k h.t.co
  simp only[sw,Ad,Af,Ae,em,Option.bind_some,Ar,Bool.not_true,cond_false,Nat.zero_add,Nat.add_zero,h.t.co.ld7,ec2,H7]
 simp only[sw,Ad,Af,Ae,ec,Option.bind_some,NJ,ep,H7]
noncomputable def xm (k:Nat) (B:Bg) (σ:Aa):Option (Value × Aa):=NV k B.bl B.mu (B.ob.p,B.ob.n,B.ob.c) (B.de.p,B.de.n,B.de.c) (B.li.p,B.li.n,B.li.c) (B.pl.p,B.pl.n,B.pl.c) (B.pi.p,B.pi.n,B.pi.c) σ
theorem Adl (k:Nat) (hk:10000≤k) (B:Bg) (hb0:0≤B.bl∧B.bl<256) (hm0:0≤B.mu∧B.mu<256):∃ m r,MK m∧Zc m∧ZX m r ∧ ∀ lo σ,kS lo σ B→lo≤σ.length →
  ∃ σ' X,xm (k+15) B σ=some (.pointer (Ak2 X),σ')∧iu σ' X m r (ja m.bls.length false 2)∧(∀ L ∈ X.Ls,∀ q ∈ L,σ.length≤q)∧σ.length≤σ'.length ∧ ∀ q,q<σ.length→σ'[q]?=σ[q]?:=by
 obtain ⟨m,r,hM,hR,hL,hB,run⟩:=Afw k hk B hb0 hm0
 refine ⟨m,r,hM,hR,hL,fun lo σ hA hlo=>?_⟩
 obtain ⟨BX,hBX⟩:∃ BX,A6.cells [.int .u8 B.bl,.int .u8 B.mu,.slice B.ob.p B.ob.n B.ob.c,.slice B.de.p B.de.n B.de.c,.slice B.li.p B.li.n B.li.c,.slice B.pl.p B.pl.n B.pl.c,.slice B.pi.p B.pi.n B.pi.c] DC true=BX:=⟨_,rfl⟩
 obtain ⟨σ1,I,t,e1,S,n1,l1,q1⟩:=run lo (σ++[BX]) (hA.GI fun q hq=>List.getElem?_append_left (by omega)) (by rw[List.length_append]; omega)
 rw[List.length_append,List.length_singleton] at n1 l1 q1
 have flm:∀ {L:List Nat},L ∈ I.Ls → ∀ q ∈ L,σ.length+1≤q:=fun hL q hq=>n1 q (List.mem_flatten.2 ⟨_,hL,hq⟩)
 obtain ⟨τ,c,e2,T,n2⟩:=Ab6 (k+8) (by omega) S.h S.mo S.rt (S.fp.sub [0,2] (by decide) (by simp[Sv.Ls]) rfl) false 2
 have e2':PK (k+13) (AV I.i) (Nc I.p) false 2 σ1=_:=e2
 have S2:=S.app τ
 obtain ⟨K0,hK0⟩:∃ K0,A6.cells [.pointer (Hy c)] Rq true=K0:=⟨_,rfl⟩
 obtain ⟨R0,hR0⟩:∃ R0,A6.cells [.pointer (bq I),.pointer (some ⟨(σ1++τ).length,0,none⟩),.slice none 0 0,.slice none 0 0,.int .i64 0] MG true=R0:=⟨_,rfl⟩
 have T3:RC (σ1++τ++[K0]++[R0]) I.i I.p c m r (ja m.bls.length false 2):=(T.app [K0]).app [R0]
 have S3:=(S2.app [K0]).app [R0]
 have l2:(σ1++τ).length=σ1.length+τ.length:=List.length_append
 refine ⟨σ1++τ++[K0]++[R0],⟨(σ1++τ++[K0]).length,(σ1++τ).length,I,c⟩, ?_,⟨?_, ?_,S3.cell,T3, ?_⟩, ?_, ?_, ?_⟩
 ·have x0:Dg .u8 (σ++[BX]) σ.length 0=some B.bl:=by rw[← hBX,BJ]; rfl
  have x1:Dg .u8 (σ++[BX]) σ.length 1=some B.mu:=by rw[← hBX,BJ]; rfl
  have x2:Hx (σ++[BX]) σ.length 2=some (B.ob.p,B.ob.n,B.ob.c)∧Hx (σ++[BX]) σ.length 3=some (B.de.p,B.de.n,B.de.c)∧Hx (σ++[BX]) σ.length 4=some (B.li.p,B.li.n,B.li.c)∧Hx (σ++[BX]) σ.length 5=some (B.pl.p,B.pl.n,B.pl.c)∧Hx (σ++[BX]) σ.length 6=some (B.pi.p,B.pi.n,B.pi.c):=by
   simp[Hx,Gi,← hBX,H7]
  obtain ⟨y2,y3,y4,y5,y6⟩:=x2
  unfold Aej at e1
  have eI:Lb (k+14) (AV I.i) (Nc I.p) σ1=some (.tuple #[.pointer (some ⟨(σ1++τ).length,0,none⟩),.int .i64 0],σ1++τ++[K0]):=by
   rw[show k+14=(k+13)+1 from rfl,fj,Zp]
   simp only[sw,Ad,Af,Ae,e2',Option.bind_some,ZH,bne_self_eq_false,cond_false,AM,hK0]
  unfold xm
  rw[jY,Xr]
  simp only[sw,Ad,Af,Ae,AM,hBX,Nat.zero_add,Nat.reduceAdd,x0,x1,y2,y3,y4,y5,y6,Option.bind_some,e1,NJ,Ali,cond_false,S.K2,S.GJ,eI,ZH,show ∀ a:Addr,Od P FM (.pointer (some a)) (.pointer none)=some false from fun a=>by kernel_rfl,bne_self_eq_false,hR0]
 ·rw[List.getElem?_concat_length,← hR0]
 ·rw[List.getElem?_append_left (by simp),List.getElem?_concat_length,← hK0]
 ·have F0:Fp σ1 [I.i.l,I.p.l,[I.sb]]:=S.fp.sub [0,2,4] (by decide) (by simp[Sv.Ls]) rfl
  have F1:=F0.cons (σ':=σ1++τ) (L:=c.l) (fun q hq=>⟨n2 q hq,T.co.lt q hq⟩) (by omega)
  have F2:=F1.cons (σ':=σ1++τ++[K0]) (L:=[(σ1++τ).length]) (fun q hq=>by rw[List.mem_singleton.1 hq,List.length_append (bs:=[K0])]; simp) (by simp)
  have F3:=F2.cons (σ':=σ1++τ++[K0]++[R0]) (L:=[(σ1++τ++[K0]).length]) (fun q hq=>by rw[List.mem_singleton.1 hq]; simp) (by simp)
  exact F3.sub [3,4,2,0,1,5] (by decide) (by simp) rfl
 ·intro L hL q hq
  have hL:L ∈ [I.i.l,I.p.l,c.l,[(σ1++τ++[K0]).length],[(σ1++τ).length],[I.sb]]:=hL
  simp only[List.mem_cons,List.not_mem_nil,or_false] at hL
  rcases hL with rfl | rfl | rfl | rfl | rfl | rfl
  ·have:=flm (L:=I.i.l) (by simp[Sv.Ls]) q hq; omega
  ·have:=flm (L:=I.p.l) (by simp[Sv.Ls]) q hq; omega
  ·have:=n2 q hq; omega
  ·have:=List.mem_singleton.1 hq; simp at this; omega
  ·have:=List.mem_singleton.1 hq; omega
  ·have:=flm (L:=[I.sb]) (by simp[Sv.Ls]) q hq; omega
 ·simp; omega
 ·intro q hq
  rw[List.append_assoc,List.append_assoc,List.getElem?_append_left (by omega),q1 q (by omega),List.getElem?_append_left hq]
end Go.Proofs.YtjbledomkmdkmaaGreat
end
section
namespace Go.Proofs.YtjbledomkmdkmaaGreat
open Go Go.AX
noncomputable local instance qGY:A9:=Aw
local instance nGY:Kn:=⟨true⟩
variable {σ:Aa} {m:HM} {i:DD} {j:RI} {t:RM}
theorem RI.Aa8 {j:RI} {q:Nat}:q ∈ j.l↔q=j.hb∨q ∈ hs j.bs∨q ∈ hs j.os∨q ∈ hs j.fs∨q ∈ YZ j.om:=RI.Lu
theorem K5.Ajg (h:K5 σ j t) (x:Int × Int) (hn:t.bl.length≤5000) (T:TypeId):∃ s' μ1 μ',B9 P Am (j.bs.1,t.bl.length,t.bl.length) (some ⟨σ.length,0,none⟩,1,1) (σ++[.cells [.int .i64 x.1,.int .i64 x.2] T true])=some (s',μ1) ∧
  K3 μ1 j.hb 0 (.slice s'.1 s'.2.1 s'.2.2)=some μ'∧K5 μ' { j with bs:=s' } { t with bl:=t.bl++[x] }∧Mv j.l ({ j with bs:=s' }:RI).l σ μ':=by
 have sep:=h.sep
 have lt:=h.lt
 obtain ⟨s',μ1,e1,g1,hs1⟩:=cN All Alc Alo rfl rfl (by decide) (by decide) (by decide) σ j.bs t.bl.length (Dd t.bl) 1 1 [.int .i64 x.1,.int .i64 x.2] T (by omega) (by decide) rfl h.bl
 have m1:=g1.mv
 have hf:=h.bl.form
 have e1':B9 P Am (j.bs.1,t.bl.length,t.bl.length) (some ⟨σ.length,0,none⟩,1,1) (σ++[.cells [.int .i64 x.1,.int .i64 x.2] T true])=some (s',μ1):=by rw[← hf]; exact e1
 have m0:Mv (hs j.bs) (hs s') σ μ1:=m1
 have cell:=m0.SB h.hp sep.hA
 have new:∀ q ∈ hs s',q ∈ hs j.bs∨σ.length≤q:=m0.new
 have nn:∀ {L:List Nat},(∀ q ∈ L,q ∈ j.l)→(∀ a ∈ hs j.bs,a ∉ L) → ∀ q ∈ hs s',q ∉ L:=fun hL hd q hq hm=>(new q hq).elim (fun h'=>hd q h' hm) fun h'=>by have:=lt q (hL q hm); omega
 have mem:=fun q=>@RI.Aa8 j q
 have GI:∀ q ∈ j.l,q ∉ hs j.bs→μ1[q]?=σ[q]?:=fun q hq hn'=>m0.same q (lt q hq) hn'
 have sep':Sep { j with bs:=s' }:=⟨fun hm=>(new _ hm).elim sep.hA fun h'=>absurd (lt _ j.Pg) (Nat.not_lt.2 h'),sep.hB,sep.hC,sep.hD,
  nn (fun q hq=>(mem q).2 (.inr (.inr (.inl hq)))) sep.AB,nn (fun q hq=>(mem q).2 (.inr (.inr (.inr (.inl hq))))) sep.AC,nn (fun q hq=>(mem q).2 (.inr (.inr (.inr (.inr hq))))) sep.AD,sep.BC,sep.BD,sep.CD,sep.D⟩
 have bl':EM Am 2 μ1 s' (t.bl++[x]).length (Dd (t.bl++[x])):=by
  rw[List.length_append,show Dd (t.bl++[x])=Dd t.bl++[.int .i64 x.1,.int .i64 x.2] from ox _ _]
  exact hs1
 have ob':EM Ac 8 μ1 j.os t.ob.length (Eb t.ob j.om):=h.ob.AG fun a ha=>GI _ ((mem _).2 (.inr (.inr (.inl (Ch.2 ⟨a,ha,rfl⟩))))) fun hm=>sep.AB _ hm (Ch.2 ⟨a,ha,rfl⟩)
 have fw':nk μ1 j.fs t.fw:=h.fw.AG fun a ha=>GI _ ((mem _).2 (.inr (.inr (.inr (.inl (Ch.2 ⟨a,ha,rfl⟩)))))) fun hm=>sep.AC _ hm (Ch.2 ⟨a,ha,rfl⟩)
 have inn':∀ (y:Nat) (hy:y<t.ob.length) (hy':y<j.om.length),Fg μ1 j.om[y].1 t.ob[y].refs∧Fg μ1 j.om[y].2 t.ob[y].data:=fun y hy hy'=>⟨(h.inn y hy hy').1.AG fun b hb=>GI _ (j.Kw hy' (.inl hb)) fun hm=>sep.AD _ hm (Kw hy' (.inl hb)),(h.inn y hy hy').2.AG fun b hb=>GI _ (j.Kw hy' (.inr hb)) fun hm=>sep.AD _ hm (Kw hy' (.inr hb))⟩
 have wide:Mv j.l ({ j with bs:=s' }:RI).l σ μ1:=m0.wide (fun q hq=>(mem q).2 (.inr (.inl hq))) fun q hq=>by
  rcases RI.Aa8.1 hq with hq | hq | hq | hq | hq
  ·exact .inl ((mem q).2 (.inl hq))
  ·exact .inr (.inl hq)
  ·exact .inl ((mem q).2 (.inr (.inr (.inl hq))))
  ·exact .inl ((mem q).2 (.inr (.inr (.inr (.inl hq)))))
  ·exact .inl ((mem q).2 (.inr (.inr (.inr (.inr hq)))))
 have lt':∀ q ∈ ({ j with bs:=s' }:RI).l,q<μ1.length:=fun q hq=>by
  rcases RI.Aa8.1 hq with hq' | hq' | hq' | hq' | hq'
  ·exact Nat.lt_of_lt_of_le (lt q ((mem q).2 (.inl hq'))) m0.len
  ·obtain ⟨a,ha,rfl⟩:=Ch.1 hq'; exact hs1.lt a ha
  ·exact Nat.lt_of_lt_of_le (lt q ((mem q).2 (.inr (.inr (.inl hq'))))) m0.len
  ·exact Nat.lt_of_lt_of_le (lt q ((mem q).2 (.inr (.inr (.inr (.inl hq')))))) m0.len
  ·exact Nat.lt_of_lt_of_le (lt q ((mem q).2 (.inr (.inr (.inr (.inr hq')))))) m0.len
 refine ⟨s',μ1,_,e1',by simp only[K3,cell]; rfl, ?_,wide.trans (Mv.set _ _ (RI.Pg { j with bs:=s' }))⟩
 exact K5.vD (i:={ j with bs:=s' }) (t:={ t with bl:=t.bl++[x] }) bl' ob' fw' h.ol inn' sep' lt'
theorem Yx (om:List (Ce × Ce)) (p:Ce × Ce) (q:Nat):q ∈ YZ (om++[p])↔q ∈ YZ om∨q ∈ hs p.1∨q ∈ hs p.2:=by
 rw[ZE,List.mem_append]
 unfold YZ
 simp
theorem K5.Ajh (h:K5 σ j t) (o:RO) (p:Ce × Ce) (hn:t.ob.length≤5000) (T:TypeId) (h1:Fg σ p.1 o.refs) (h2:Fg σ p.2 o.data) (hp:∀ q,q ∈ hs p.1∨q ∈ hs p.2→q<σ.length∧q ∉ j.l) (hd:∀ q ∈ hs p.1,q ∉ hs p.2):∃ s' μ1 μ',B9 P Ac (j.os.1,t.ob.length,t.ob.length) (some ⟨σ.length,0,none⟩,1,1) (σ++[.cells (Bf o p) T true])=some (s',μ1) ∧
  K3 μ1 j.hb 1 (.slice s'.1 s'.2.1 s'.2.2)=some μ'∧K5 μ' { j with os:=s',om:=j.om++[p] } { t with ob:=t.ob++[o] }∧σ.length≤μ'.length∧(∀ q,q<σ.length→q ∉ j.l→μ'[q]?=σ[q]?) ∧ ∀ q,q ∈ ({ j with os:=s',om:=j.om++[p] }:RI).l→q ∈ j.l∨σ.length≤q∨q ∈ hs p.1∨q ∈ hs p.2:=by
 have sep:=h.sep
 have lt:=h.lt
 obtain ⟨s',μ1,e1,g1,hs1⟩:=cN szO byO zzO rfl rfl (by decide) (by decide) (by decide) σ j.os t.ob.length (Eb t.ob j.om) 1 1 (Bf o p) T (by omega) (by decide) rfl h.ob
 have m0:Mv (hs j.os) (hs s') σ μ1:=g1.mv
 have hf:=h.ob.form
 have e1':B9 P Ac (j.os.1,t.ob.length,t.ob.length) (some ⟨σ.length,0,none⟩,1,1) (σ++[.cells (Bf o p) T true])=some (s',μ1):=by rw[← hf]; exact e1
 have cell:=m0.SB h.hp sep.hB
 have mem:=fun q=>@RI.Aa8 j q
 have new:∀ q ∈ hs s',q ∈ hs j.os∨σ.length≤q:=m0.new
 have GI:∀ q ∈ j.l,q ∉ hs j.os→μ1[q]?=σ[q]?:=fun q hq hn'=>m0.same q (lt q hq) hn'
 have pO:∀ q,q ∈ hs p.1∨q ∈ hs p.2→q ∉ hs j.os:=fun q hq hm=>(hp q hq).2 ((mem q).2 (.inr (.inr (.inl hm))))
 have Oe:∀ q,q ∈ hs p.1∨q ∈ hs p.2→μ1[q]?=σ[q]?:=fun q hq=>m0.same q (hp q hq).1 (pO q hq)
 have nj:∀ q ∈ hs s',q ∈ j.l→q ∈ hs j.os:=fun q hq hm=>(new q hq).elim id fun h'=>absurd (lt q hm) (Nat.not_lt.2 h')
 have nP:∀ q ∈ hs s',¬ (q ∈ hs p.1∨q ∈ hs p.2):=fun q hq hm=>(new q hq).elim (pO q hm) fun h'=>absurd (hp q hm).1 (Nat.not_lt.2 h')
 have sep':Sep { j with os:=s',om:=j.om++[p] }:=by
  refine ⟨sep.hA,fun hm=>sep.hB (nj _ hm j.Pg),sep.hC,fun hm=>?_,fun a ha hm=>sep.AB a ha (nj a hm ((mem a).2 (.inr (.inl ha)))),sep.AC,fun a ha hm=>?_,fun a ha hm=>sep.BC a (nj a ha ((mem a).2 (.inr (.inr (.inr (.inl hm)))))) hm,fun a ha hm=>?_,fun a ha hm=>?_, ?_⟩
  ·rcases (Yx _ _ _).1 hm with hm | hm
   ·exact sep.hD hm
   ·exact (hp _ hm).2 j.Pg
  ·rcases (Yx _ _ _).1 hm with hm | hm
   ·exact sep.AD a ha hm
   ·exact (hp _ hm).2 ((mem a).2 (.inr (.inl ha)))
  ·rcases (Yx _ _ _).1 hm with hm | hm
   ·exact sep.BD a (nj a ha ((mem a).2 (.inr (.inr (.inr (.inr hm)))))) hm
   ·exact nP a ha hm
  ·rcases (Yx _ _ _).1 hm with hm | hm
   ·exact sep.CD a ha hm
   ·exact (hp _ hm).2 ((mem a).2 (.inr (.inr (.inr (.inl ha)))))
  ·show (YZ (j.om++[p])).Nodup
   rw[ZE,List.nodup_append]
   refine ⟨sep.D, ?_,fun a ha b hb e=>?_⟩
   ·unfold YZ
    simp only[List.flatMap_cons,List.flatMap_nil,List.append_nil]
    rw[List.nodup_append]
    exact ⟨Te _,Te _,fun a ha b hb e=>hd a ha (e ▸ hb)⟩
   ·subst e
    have hb:a ∈ hs p.1∨a ∈ hs p.2:=by
     unfold YZ at hb
     simpa using hb
    exact (hp a hb).2 ((mem a).2 (.inr (.inr (.inr (.inr ha)))))
 have bl':EM Am 2 μ1 j.bs t.bl.length (Dd t.bl):=h.bl.AG fun a ha=>GI _ ((mem _).2 (.inr (.inl (Ch.2 ⟨a,ha,rfl⟩)))) fun hm=>sep.AB _ (Ch.2 ⟨a,ha,rfl⟩) hm
 have ob':EM Ac 8 μ1 s' (t.ob++[o]).length (Eb (t.ob++[o]) (j.om++[p])):=by
  rw[List.length_append,Yw _ _ _ _ h.ol,show Eb [o] [p]=Bf o p from by simp[Eb]]
  exact hs1
 have fw':nk μ1 j.fs t.fw:=h.fw.AG fun a ha=>GI _ ((mem _).2 (.inr (.inr (.inr (.inl (Ch.2 ⟨a,ha,rfl⟩)))))) fun hm=>sep.BC _ hm (Ch.2 ⟨a,ha,rfl⟩)
 have ol':(j.om++[p]).length=(t.ob++[o]).length:=by rw[List.length_append,List.length_append,h.ol]; rfl
 have inn':∀ (y:Nat) (hy:y<(t.ob++[o]).length) (hy':y<(j.om++[p]).length),Fg μ1 (j.om++[p])[y].1 (t.ob++[o])[y].refs∧Fg μ1 (j.om++[p])[y].2 (t.ob++[o])[y].data:=fun y hy hy'=>by
  by_cases q:y<t.ob.length
  ·have q':y<j.om.length:=by rw[h.ol]; exact q
   rw[List.getElem_append_left q,List.getElem_append_left q']
   exact ⟨(h.inn y q q').1.AG fun b hb=>GI _ (j.Kw q' (.inl hb)) fun hm=>sep.BD _ hm (Kw q' (.inl hb)),(h.inn y q q').2.AG fun b hb=>GI _ (j.Kw q' (.inr hb)) fun hm=>sep.BD _ hm (Kw q' (.inr hb))⟩
  ·have e:y=t.ob.length:=by rw[List.length_append,List.length_singleton] at hy; omega
   subst e
   rw[List.getElem_append_right (Nat.le_refl _),List.getElem_append_right (by rw[h.ol]; exact Nat.le_refl _)]
   simp only[Nat.sub_self,h.ol,List.getElem_cons_zero]
   exact ⟨h1.AG fun b hb=>Oe b (.inl hb),h2.AG fun b hb=>Oe b (.inr hb)⟩
 have lt':∀ q ∈ ({ j with os:=s',om:=j.om++[p] }:RI).l,q<μ1.length:=fun q hq=>by
  rcases RI.Aa8.1 hq with hq' | hq' | hq' | hq' | hq'
  ·exact Nat.lt_of_lt_of_le (lt q ((mem q).2 (.inl hq'))) m0.len
  ·exact Nat.lt_of_lt_of_le (lt q ((mem q).2 (.inr (.inl hq')))) m0.len
  ·obtain ⟨a,ha,rfl⟩:=Ch.1 hq'; exact hs1.lt a ha
  ·exact Nat.lt_of_lt_of_le (lt q ((mem q).2 (.inr (.inr (.inr (.inl hq')))))) m0.len
  ·rcases (Yx _ _ _).1 hq' with hq' | hq'
   ·exact Nat.lt_of_lt_of_le (lt q ((mem q).2 (.inr (.inr (.inr (.inr hq')))))) m0.len
   ·exact Nat.lt_of_lt_of_le (hp q hq').1 m0.len
 refine ⟨s',μ1,_,e1',by simp only[K3,cell]; rfl,K5.vD (i:={ j with os:=s',om:=j.om++[p] }) (t:={ t with ob:=t.ob++[o] }) bl' ob' fw' ol' inn' sep' lt',by rw[List.length_set]; exact m0.len,fun q hq hn'=>?_,fun q hq=>?_⟩
 ·rw[List.getElem?_set_ne (fun e:j.hb=q=>hn' (by rw[← e]; exact j.Pg))]
  exact m0.same q hq fun hm=>hn' ((mem q).2 (.inr (.inr (.inl hm))))
 ·rcases RI.Aa8.1 hq with hq' | hq' | hq' | hq' | hq'
  ·exact .inl ((mem q).2 (.inl hq'))
  ·exact .inl ((mem q).2 (.inr (.inl hq')))
  ·exact (new q hq').elim (fun h'=>.inl ((mem q).2 (.inr (.inr (.inl h'))))) fun h'=>.inr (.inl h')
  ·exact .inl ((mem q).2 (.inr (.inr (.inr (.inl hq')))))
  ·rcases (Yx _ _ _).1 hq' with hq' | hq'
   ·exact .inl ((mem q).2 (.inr (.inr (.inr (.inr hq')))))
   ·exact .inr (.inr hq')
theorem Agi (m:HM) {b:Nat} (hb:b<m.bls.length):(CE m (b:Int),Rl m (b:Int))=m.bls.getD b (0,0):=by
 unfold CE Rl
 rw[if_pos (by omega),if_pos (by omega),Int.toNat_natCast]
theorem nH (k:Nat) (hnt:m.bls.length≤64) (h3 lo:Nat):∀ (n x f:Nat) (μ:Aa) (j:RI),An μ i m→K5 μ j ⟨m.bls.take x,[],[],m.births⟩→j.hb=h3→(∀ q ∈ j.l,lo≤q)→(∀ q ∈ i.l,q<lo)→lo≤μ.length→x+n=m.bls.length→n<f →
  ∃ μ' j',IZ (k+3) f (AV i) h3 (x:Int) μ=some (.exit 0,[],μ')∧K5 μ' j' ⟨m.bls,[],[],m.births⟩∧j'.hb=h3∧(∀ q ∈ j'.l,lo≤q)∧μ.length≤μ'.length ∧ ∀ q,q<lo→μ'[q]?=μ[q]?
 | n,x,0,μ,j,h,hr,hj,hl,hi,hm,hx,hf=>by omega
 | 0,x,f+1,μ,j,h,hr,hj,hl,hi,hm,hx,hf=>by
   have eB:Av (k+3) (AV i) μ=_:=Pt (k+1) h
   rw[Vt,Ot]
   simp only[sw,Ad,Af,Ae,eB,Option.bind_some,Aj,decide_eq_false (show ¬ (x:Int)<((m.bls.length:Nat):Int) by omega),cond_false]
   rw[List.take_of_length_le (by omega)] at hr
   exact ⟨μ,j,rfl,hr,hj,hl,Nat.le_refl _,fun _ _=>rfl⟩
 | n+1,x,f+1,μ,j,h,hr,hj,hl,hi,hm,hx,hf=>by
   have w1:Cf ((x:Int)+1)=((x+1:Nat):Int):=Ak (by unfold AU; omega)
   have eB:Av (k+3) (AV i) μ=_:=Pt (k+1) h
   have eS:AY (k+3) (AV i) (x:Int) μ=_:=mW k h (x:Int)
   have eP:BO (k+3) (AV i) (x:Int) μ=_:=Af2 k h (x:Int)
   have htl:(m.bls.take x).length=x:=by rw[List.length_take]; omega
   have htk:m.bls.take (x+1)=m.bls.take x++[(CE m (x:Int),Rl m (x:Int))]:=by
    rw[Agi m (by omega),List.take_add_one,List.getElem?_eq_getElem (by omega),List.getD_eq_getElem?_getD,List.getElem?_eq_getElem (by omega)]; rfl
   obtain ⟨s',μ1,μ2,e1,e2,hr2,m2⟩:=hr.Ajg (CE m (x:Int),Rl m (x:Int)) (by show (m.bls.take x).length≤5000; omega) Am
   have hr2:K5 μ2 { j with bs:=s' } ⟨m.bls.take (x+1),[],[],m.births⟩:=by rw[htk]; exact hr2
   have d0:Hx μ h3 0=some (j.bs.1,x,x):=by
    have:=hr.K2
    rw[← hj]
    show Hx μ j.hb 0=_
    rw[this]
    show some (j.bs.1,(m.bls.take x).length,(m.bls.take x).length)=_
    rw[htl]
   have low:∀ q,q<lo→μ2[q]?=μ[q]?:=fun q hq=>m2.same q (by omega) fun hm'=>absurd (hl q hm') (by omega)
   obtain ⟨μ',j',e3,r3,b3,l3,n3,q3⟩:=nH k hnt h3 lo n (x+1) f μ2 { j with bs:=s' } (h.AG fun q hq=>low q (hi q hq)) hr2 hj (fun q hq=>(m2.new q hq).elim (hl q) fun h'=>by omega) hi (by have:=m2.len; omega) (by omega) (by omega)
   refine ⟨μ',j', ?_,r3,b3,l3,Nat.le_trans m2.len n3,fun q hq=>(q3 q hq).trans (low q hq)⟩
   rw[Vt,Ot]
   have e1':B9 P Am (j.bs.1,x,x) (some ⟨μ.length,0,none⟩,1,1) (μ++[A6.cells [.int .i64 (CE m (x:Int)),.int .i64 (Rl m (x:Int))] Am true])=some (s',μ1):=by
    have e1:B9 P Am (j.bs.1,(m.bls.take x).length,(m.bls.take x).length) (some ⟨μ.length,0,none⟩,1,1) (μ++[A6.cells [.int .i64 (CE m (x:Int)),.int .i64 (Rl m (x:Int))] Am true])=some (s',μ1):=e1
    rw[htl] at e1; exact e1
   have e2':K3 μ1 h3 0 (.slice s'.1 s'.2.1 s'.2.2)=some μ2:=by rw[← hj]; exact e2
   simp only[sw,Ad,Af,Ae,eB,Option.bind_some,Aj,decide_eq_true (show (x:Int)<((m.bls.length:Nat):Int) by omega),cond_true,Nat.zero_add,d0,eS,eP,AM,e1',e2',w1,e3]
end Go.Proofs.YtjbledomkmdkmaaGreat
end
