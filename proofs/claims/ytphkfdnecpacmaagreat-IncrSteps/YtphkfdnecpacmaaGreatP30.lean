/- A scene is opened.; A collector over a scene.; A heap read: what was made of it. -/
import Derived.Test.YtphkfdnecpacmaaGreatP29
set_option linter.unusedVariables false
set_option linter.unusedSimpArgs false
set_option linter.unusedSectionVars false
section
namespace Go.Proofs.YtphkfdnecpacmaaGreat
open Go Go.AX
noncomputable local instance qGW:AA:=Aw
local instance nGW:Kn:=⟨true⟩
variable {σ:Aa} {m mr:HM} {t:RM} {r rq:Ky} {I:So}
def eY (m:HM) (b0 b1 b2:Nat):HM:=if 0<(Au m (ma m (b0 % 100))).1 then (EJ m (ma m (b0 % 100)) (((b1:Nat):Int).tmod (Au m (ma m (b0 % 100))).1) (ma m (b2 % 100))).2 else m
theorem Adv (hM:MK m) (h:YR m) (b0 b1 b2:Nat):MK (eY m b0 b1 b2)∧YR (eY m b0 b1 b2)∧(eY m b0 b1 b2).births=m.births∧(eY m b0 b1 b2).bls.length=m.bls.length:=by
 unfold eY
 split
 ·have s:=X0 m (ma m (b0 % 100)) (((b1:Nat):Int).tmod (Au m (ma m (b0 % 100))).1) (ma m (b2 % 100))
  exact ⟨hM.setRef _ _ _,h.setRef hM.inv _ _ _,s.2.2.1,by rw[s.1]⟩
 ·exact ⟨hM,h,rfl,rfl⟩
theorem Abh (σ:Aa) (T:TypeId) (a b c x y z:Value):X5 (σ++[.cells [a,b,c] T true]) σ.length 0 [x,y,z]=some (σ++[.cells [x,y,z] T true]):=Io σ T a b c x y z
theorem nr (k:Nat) (hk:5000≤k) (B:Bg) (r:Ky):∀ (n x:Nat) (m:HM),MK m→YR m→x+n=min B.li.n 120 →
  ∃ m',MK m'∧YR m'∧m'.births=m.births∧m'.bls.length=m.bls.length ∧ ∀ lo h0 sb,uv lo h0 sb B (fun f=>BU (k+12) f h0 sb (x:Int)) (.exit 4) n m m' r r
 | 0,x,m,hM,hz,hx=>by
   refine ⟨m,hM,hz,rfl,rfl,fun lo h0 sb f μ I t hf M=>?_⟩
   obtain ⟨f,rfl⟩:∃ f',f=f'+1:=⟨f-1,by omega⟩
   refine ⟨μ,I,t, ?_,M,Mv.refl _ _⟩
   show BU _ _ _ _ _ _=_
   rw[NN,Iu]
   simp only[sw,Ad,Af,Ae,Nat.zero_add,M.b.Hr.2.2.1,Option.bind_some]
   by_cases q:x<B.li.n
   ·simp only[decide_eq_true (show (x:Int)<((B.li.n:Nat):Int) by omega),cond_true,decide_eq_false (show ¬ (x:Int)<120 by omega),Option.bind_some,cond_false]
   ·simp only[decide_eq_false (show ¬ (x:Int)<((B.li.n:Nat):Int) by omega),cond_false,Option.bind_some]
 | n+1,x,m,hM,hz,hx=>by
   obtain ⟨P1,P2,P3,P4⟩:=Adv hM hz (B.li.at (x*3)).toNat (B.li.at (x*3+1)).toNat (B.li.at (x*3+2)).toNat
   obtain ⟨m',a1,a2,a3,a4,LL⟩:=nr k hk B r n (x+1) _ P1 P2 (by omega)
   refine ⟨m',a1,a2,a3.trans P3,a4.trans P4,fun lo h0 sb f μ I t hf M=>?_⟩
   have L:=LL lo h0 sb
   obtain ⟨f,rfl⟩:∃ f',f=f'+1:=⟨f-1,by omega⟩
   have w1:Ce ((x:Int)+1)=((x+1:Nat):Int):=Ak (by unfold AU; omega)
   have hxn:x<B.li.n:=by omega
   obtain ⟨q,eq,hq,ld⟩:=M.b.li.ld hxn
   have qx:(0≤(x:Int)∧(x:Int)<((B.li.n:Nat):Int))=True:=eq_true (by omega)
   have d0:=ld μ rfl 0 (by decide)
   have d1:=ld μ rfl 1 (by decide)
   have d2:=ld μ rfl 2 (by decide)
   rw[Nat.add_zero] at d0
   have g0:=M.b.li.rg (x*3)
   have g1:=M.b.li.rg (x*3+1)
   have g2:=M.b.li.rg (x*3+2)
   obtain ⟨y0,hy0⟩:∃ y:Nat,B.li.at (x*3)=(y:Int):=⟨(B.li.at (x*3)).toNat,by omega⟩
   obtain ⟨y1,hy1⟩:∃ y:Nat,B.li.at (x*3+1)=(y:Int):=⟨(B.li.at (x*3+1)).toNat,by omega⟩
   obtain ⟨y2,hy2⟩:∃ y:Nat,B.li.at (x*3+2)=(y:Int):=⟨(B.li.at (x*3+2)).toNat,by omega⟩
   rw[hy0,hy1,hy2,Int.toNat_natCast,Int.toNat_natCast,Int.toNat_natCast] at L
   rw[hy0] at d0
   rw[hy1] at d1
   rw[hy2] at d2
   have v0:Ce (y0:Int)=(y0:Int):=Ak (by unfold AU; omega)
   have v1:Ce (y1:Int)=(y1:Int):=Ak (by unfold AU; omega)
   have v2:Ce (y2:Int)=(y2:Int):=Ak (by unfold AU; omega)
   have em0:(y0:Int).tmod 100=((y0 % 100:Nat):Int):=fD y0 100
   have em2:(y2:Int).tmod 100=((y2 % 100:Nat):Int):=fD y2 100
   obtain ⟨A,hA⟩:∃ A,A6.cells [.int .u8 (y0:Int),.int .u8 (y1:Int),.int .u8 (y2:Int)] qZ true=A:=⟨_,rfl⟩
   have M1:=M.app [A]
   have la:∀ τ o v,([Value.int .u8 (y0:Int),.int .u8 (y1:Int),.int .u8 (y2:Int)]:List Value)[o]?=some (.int .u8 v)→Df .u8 (μ++[A]++τ) μ.length o=some v:=fun τ o v h=>by rw[← hA]; exact Ado _ _ _ _ _ _ h
   have la0:Df .u8 (μ++[A]) μ.length 0=some (y0:Int):=by have:=la [] 0 (y0:Int) rfl; rwa [List.append_nil] at this
   have hsb:=M.sb
   subst hsb
   have eA:Bq (k+12) (aX I) ((y0 % 100:Nat):Int) (μ++[A])=_:=uh (k+11) M1.s (Nat.mod_lt _ (by decide))
   have hain:=ug (n:=y0 % 100) hM
   obtain ⟨a,ha⟩:∃ a,ma m (y0 % 100)=a:=⟨_,rfl⟩
   obtain ⟨τ2,eS⟩:=Aa6 (k+8) (by omega) M1.s.g a
   have eS':G2 (k+12) (Cp I.j) a (μ++[A])=_:=eS
   rw[vY] at eS'
   obtain ⟨s1,s2,s3,s4⟩:=UL hM.inv a
   have M2:=M1.app τ2
   obtain ⟨S,hS⟩:∃ S,A6.cells [.int .i64 (Au m a).1,.int .i64 (Au m a).2.1,.int .i64 (Au m a).2.2] Ag true=S:=⟨_,rfl⟩
   have M3:=M2.app [S]
   have lS:Df .i64 (μ++[A]++τ2++[S]) (μ++[A]++τ2).length 0=some (Au m a).1:=by rw[← hS,BI]; rfl
   have l2:Lw (μ++[A]) I.sb 2=some (Cp I.j):=M1.s.kc
   have hassoc:μ++[A]++τ2++[S]=μ++[A]++(τ2++[S]):=List.append_assoc _ _ _
   have lb1:Df .u8 (μ++[A]++τ2++[S]) μ.length 1=some (y1:Int):=by rw[hassoc]; exact la _ 1 _ rfl
   have lb2:Df .u8 (μ++[A]++τ2++[S]) μ.length 2=some (y2:Int):=by rw[hassoc]; exact la _ 2 _ rfl
   have mm:Mv I.fl I.fl μ (μ++[A]++τ2++[S]):=((Mv.app _ _ _).trans (Mv.app _ _ _)).trans (Mv.app _ _ _)
   have i0:(0≤(0:Int)∧(0:Int)<((3:Nat):Int))=True:=eq_true (by decide)
   have i1:(0≤(1:Int)∧(1:Int)<((3:Nat):Int))=True:=eq_true (by decide)
   have i2:(0≤(2:Int)∧(2:Int)<((3:Nat):Int))=True:=eq_true (by decide)
   have hh0:(Au m a).1>0→DZ m a=true:=fun h=>by
    unfold Au at h
    split at h
    ·assumption
    ·exact absurd h (by decide)
   show ∃ μ' I' t',BU _ _ _ _ _ _=_∧_
   rw[NN,Iu]
   simp only[sw,Ad,Af,Ae,Nat.zero_add,Nat.add_assoc,Nat.reduceAdd,M.b.Hr.2.2.1,Option.bind_some,decide_eq_true (show (x:Int)<((B.li.n:Nat):Int) by omega),cond_true,decide_eq_true (show (x:Int)<120 by omega),qx,if_true,eq,Int.toNat_natCast,d0,d1,d2,AM,Abh,hA,i0,Int.toNat_zero,Nat.zero_mul,la0,v0,em0,show ((100:Int)=0)=False from by simp,if_false,eA,Aj,ha,l2,eS',ya,List.length_cons,List.length_nil,List.head?_cons,List.tail_cons,Li,hS]
   have go:∀ {X:Option Ax},eY m y0 y1 y2=m→X=BU (k+12) f h0 I.sb ((x+1:Nat):Int) (μ++[A]++τ2++[S]) → ∃ μ' I' t',X=some (.exit 4,[],μ')∧Mk lo μ' I' m' t' r I.sb h0 B∧Mv I.fl I'.fl μ μ':=fun hl hX=>by
    rw[hl] at L
    obtain ⟨μ',I',t',e3,M4,m4⟩:=L f _ I t (by omega) M3
    exact ⟨μ',I',t',by rw[hX]; exact e3,M4,mm.trans m4⟩
   by_cases hr:0<(Au m a).1
   rotate_left
   ·have hl:eY m y0 y1 y2=m:=by unfold eY; rw[ha,if_neg hr]
    refine go hl ?_
    have hb:((bif (if DZ m a then (0:Int) else 4) == (0:Int) then (Df .i64 (μ++[A]++τ2++[S]) (μ++[A]++τ2).length 0).bind fun n83=>some (decide (n83>(0:Int)),μ++[A]++τ2++[S]) else some (false,μ++[A]++τ2++[S])):Option (Bool × Aa))=some (false,μ++[A]++τ2++[S]):=by
     rw[lS]
     simp only[Option.bind_some,decide_eq_false (show ¬ (Au m a).1>0 from hr)]
     cases (if DZ m a then (0:Int) else 4) == (0:Int) <;> rfl
    simp only[hb,Option.bind_some,cond_false,w1]
   ·have hl:eY m y0 y1 y2=(EJ m a ((y1:Int).tmod (Au m a).1) (ma m (y2 % 100))).2:=by unfold eY; rw[ha,if_pos hr]
    rw[hl] at L
    have hha:=hh0 hr
    have eA2:Bq (k+12) (aX I) ((y2 % 100:Nat):Int) (μ++[A]++τ2++[S])=_:=uh (k+11) M3.s (Nat.mod_lt _ (by decide))
    obtain ⟨μ4,I4,t4,e4,S4,m4,b4⟩:=Ae7 (k+4) (by omega) M3.s a ((y1:Int).tmod (Au m a).1) (ma m (y2 % 100)) (by rw[← ha]; exact hain.1) (ug hM).1
    have M4:=M3.step S4 m4 b4
    obtain ⟨μ',I',t',e5,M5,m5⟩:=L f μ4 I4 t4 (by omega) M4
    refine ⟨μ',I',t', ?_,M5,(mm.trans m4).trans m5⟩
    have hif:(if DZ m a=true then (0:Int) else 4)=0:=by rw[if_pos hha]
    simp only[hif,show ((0:Int) == 0)=true from rfl,cond_true,lS,Option.bind_some,decide_eq_true (show (Au m a).1>0 from hr),i1,if_true,show (1:Int).toNat*1=1 from rfl,lb1,show ((Au m a).1=0)=False from eq_false (by omega),if_false,i2,show (2:Int).toNat*1=2 from rfl,lb2,v2,em2,eA2,Aj,v1,e4,Ar,Bool.not_true,cond_false,w1]
    exact e5
theorem ns (k:Nat) (hk:5000≤k) (B:Bg) (m:HM) (hM:MK m):∀ (n x:Nat) (r:Ky),ZL m r→x+n=min B.pl.n 20 →
  ∃ r',ZL m r' ∧ ∀ lo h0 sb,uv lo h0 sb B (fun f=>C0 (k+12) f h0 sb (x:Int)) (.exit 6) n m m r r'
 | 0,x,r,hz,hx=>by
   refine ⟨r,hz,fun lo h0 sb f μ I t hf M=>?_⟩
   obtain ⟨f,rfl⟩:∃ f',f=f'+1:=⟨f-1,by omega⟩
   refine ⟨μ,I,t, ?_,M,Mv.refl _ _⟩
   show C0 _ _ _ _ _ _=_
   rw[NO,Iv]
   simp only[sw,Ad,Af,Ae,Nat.zero_add,M.b.Hr.2.2.2.1,Option.bind_some]
   by_cases q:x<B.pl.n
   ·simp only[decide_eq_true (show (x:Int)<((B.pl.n:Nat):Int) by omega),cond_true,decide_eq_false (show ¬ (x:Int)<20 by omega),Option.bind_some,cond_false]
   ·simp only[decide_eq_false (show ¬ (x:Int)<((B.pl.n:Nat):Int) by omega),cond_false,Option.bind_some]
 | n+1,x,r,hz,hx=>by
   have hz1:ZL m (gG r (B.pl.at (x*2)).toNat (ma m ((B.pl.at (x*2+1)).toNat % 100))):=fun v hv=>by
    rcases Aen hv with rfl | hv
    ·exact Acx m _
    ·exact hz v hv
   obtain ⟨r',a1,LL⟩:=ns k hk B m hM n (x+1) _ hz1 (by omega)
   refine ⟨r',a1,fun lo h0 sb f μ I t hf M=>?_⟩
   have L:=LL lo h0 sb
   obtain ⟨f,rfl⟩:∃ f',f=f'+1:=⟨f-1,by omega⟩
   have w1:Ce ((x:Int)+1)=((x+1:Nat):Int):=Ak (by unfold AU; omega)
   have hxn:x<B.pl.n:=by omega
   obtain ⟨q,eq,hq,ld⟩:=M.b.pl.ld hxn
   have qx:(0≤(x:Int)∧(x:Int)<((B.pl.n:Nat):Int))=True:=eq_true (by omega)
   have d0:=ld μ rfl 0 (by decide)
   have d1:=ld μ rfl 1 (by decide)
   rw[Nat.add_zero] at d0
   have g0:=M.b.pl.rg (x*2)
   have g1:=M.b.pl.rg (x*2+1)
   obtain ⟨y0,hy0⟩:∃ y:Nat,B.pl.at (x*2)=(y:Int):=⟨(B.pl.at (x*2)).toNat,by omega⟩
   obtain ⟨y1,hy1⟩:∃ y:Nat,B.pl.at (x*2+1)=(y:Int):=⟨(B.pl.at (x*2+1)).toNat,by omega⟩
   rw[hy0,hy1,Int.toNat_natCast,Int.toNat_natCast] at L
   rw[hy0] at d0
   rw[hy1] at d1
   have v0:Ce (y0:Int)=(y0:Int):=Ak (by unfold AU; omega)
   have v1:Ce (y1:Int)=(y1:Int):=Ak (by unfold AU; omega)
   have em1:(y1:Int).tmod 100=((y1 % 100:Nat):Int):=fD y1 100
   have hsb:=M.sb
   subst hsb
   have eA:Bq (k+12) (aX I) ((y1 % 100:Nat):Int) μ=_:=uh (k+11) M.s (Nat.mod_lt _ (by decide))
   obtain ⟨μ4,I4,t4,e4,S4,m4,b4⟩:=Ah6 (k+7) M.s (n:=y0) (by omega) (ma m (y1 % 100)) (ug hM).1
   have M4:=M.step S4 m4 b4
   obtain ⟨μ',I',t',e5,M5,m5⟩:=L f μ4 I4 t4 (by omega) M4
   refine ⟨μ',I',t', ?_,M5,m4.trans m5⟩
   have i0:(0≤(0:Int)∧(0:Int)<((2:Nat):Int))=True:=eq_true (by decide)
   have i1:(0≤(1:Int)∧(1:Int)<((2:Nat):Int))=True:=eq_true (by decide)
   show C0 _ _ _ _ _ _=_
   rw[NO,Iv]
   simp only[sw,Ad,Af,Ae,Nat.zero_add,M.b.Hr.2.2.2.1,Option.bind_some,decide_eq_true (show (x:Int)<((B.pl.n:Nat):Int) by omega),cond_true,decide_eq_true (show (x:Int)<20 by omega),qx,if_true,eq,Int.toNat_natCast,i0,Int.toNat_zero,Nat.zero_mul,Nat.add_zero,d0,i1,show (1:Int).toNat*1=1 from rfl,d1,v0,v1,em1,show ((100:Int)=0)=False from by simp,if_false,eA,Aj,e4,Ar,Bool.not_true,cond_false,w1]
   exact e5
theorem nu (k:Nat) (hk:5000≤k) (B:Bg) (r:Ky):∀ (n x:Nat) (m:HM),MK m→YR m→ZL m r→x+n=min B.pi.n 8 →
  ∃ m',MK m'∧YR m'∧ZL m' r∧m'.births=m.births∧m'.bls.length=m.bls.length ∧ ∀ lo h0 sb,uv lo h0 sb B (fun f=>C5 (k+12) f h0 sb (x:Int)) (.exit 8) n m m' r r
 | 0,x,m,hM,hz,hl,hx=>by
   refine ⟨m,hM,hz,hl,rfl,rfl,fun lo h0 sb f μ I t hf M=>?_⟩
   obtain ⟨f,rfl⟩:∃ f',f=f'+1:=⟨f-1,by omega⟩
   refine ⟨μ,I,t, ?_,M,Mv.refl _ _⟩
   show C5 _ _ _ _ _ _=_
   rw[NP,Iw]
   simp only[sw,Ad,Af,Ae,Nat.zero_add,M.b.Hr.2.2.2.2,Option.bind_some]
   by_cases q:x<B.pi.n
   ·simp only[decide_eq_true (show (x:Int)<((B.pi.n:Nat):Int) by omega),cond_true,decide_eq_false (show ¬ (x:Int)<8 by omega),Option.bind_some,cond_false]
   ·simp only[decide_eq_false (show ¬ (x:Int)<((B.pi.n:Nat):Int) by omega),cond_false,Option.bind_some]
 | n+1,x,m,hM,hz,hl,hx=>by
   have pl:=kj m (ma m ((B.pi.at x).toNat % 100)) 1
   obtain ⟨m',a1,a2,a3,a4,a5,LL⟩:=nu k hk B r n (x+1) _ (hM.lI (ma m ((B.pi.at x).toNat % 100)) 1) (hz.lI _ _) (hl.AF (by rw[pl.1]) pl.2.1) (by omega)
   refine ⟨m',a1,a2,a3,a4.trans pl.2.2.2.1,a5.trans (by rw[pl.1]),fun lo h0 sb f μ I t hf M=>?_⟩
   have L:=LL lo h0 sb
   obtain ⟨f,rfl⟩:∃ f',f=f'+1:=⟨f-1,by omega⟩
   have w1:Ce ((x:Int)+1)=((x+1:Nat):Int):=Ak (by unfold AU; omega)
   have hxn:x<B.pi.n:=by omega
   obtain ⟨q,eq,hq,ld⟩:=M.b.pi.ld hxn
   have qx:(0≤(x:Int)∧(x:Int)<((B.pi.n:Nat):Int))=True:=eq_true (by omega)
   have d0:=ld μ rfl 0 (by decide)
   rw[Nat.add_zero,Nat.mul_one] at d0
   have g0:=M.b.pi.rg x
   obtain ⟨y,hy⟩:∃ y:Nat,B.pi.at x=(y:Int):=⟨(B.pi.at x).toNat,by omega⟩
   rw[hy,Int.toNat_natCast] at L
   rw[hy] at d0
   have w0:Ce (y:Int)=(y:Int):=Ak (by unfold AU; omega)
   have em:(y:Int).tmod 100=((y % 100:Nat):Int):=fD y 100
   have eA:Bq (k+12) (aX I) ((y % 100:Nat):Int) μ=_:=uh (k+11) M.s (Nat.mod_lt _ (by decide))
   obtain ⟨σ1,σ2,j',t2,e1,c1,l1,e2,S2,m2⟩:=Ab4 k hk M.s (ma m (y % 100)) (ug hM).1
   have M2:=M.step S2 m2 rfl
   obtain ⟨μ',I',t',e3,M3,m3⟩:=L f σ2 _ t2 (by omega) M2
   refine ⟨μ',I',t', ?_,M3,m2.trans m3⟩
   have l2:Lw μ I.sb 2=some (Cp I.j):=M.s.kc
   have hsb:=M.sb
   subst hsb
   show C5 _ _ _ _ _ _=_
   rw[NP,Iw]
   simp only[sw,Ad,Af,Ae,Nat.zero_add,M.b.Hr.2.2.2.2,Option.bind_some,decide_eq_true (show (x:Int)<((B.pi.n:Nat):Int) by omega),cond_true,decide_eq_true (show (x:Int)<8 by omega),qx,if_true,eq,Int.toNat_natCast,Nat.mul_one,d0,w0,em,show ((100:Int)=0)=False from by simp,if_false,eA,Aj,l2,e1,Zy c1,l1,e2,bne_self_eq_false,cond_false,w1]
   exact e3
theorem Aky (a:Addr):NW P HA (.pointer (some a)) (.pointer none)=some false:=by kernel_rfl
theorem Aku (a:Addr):NW P FK (.pointer (some a)) (.pointer none)=some false:=by kernel_rfl
structure kI (lo:Nat) (σ:Aa) (B:Bg):Prop where
 b0:0≤B.bl∧B.bl<256
 m0:0≤B.mu∧B.mu<256
 ob:WZ lo σ 4 B.ob
 de:WZ lo σ 1 B.de
 li:WZ lo σ 3 B.li
 pl:WZ lo σ 2 B.pl
 pi:WZ lo σ 1 B.pi
theorem kI.GJ {lo:Nat} {σ σ':Aa} {B:Bg} (h:kI lo σ B) (hq:∀ q,q<lo→σ'[q]?=σ[q]?):kI lo σ' B:=⟨h.b0,h.m0,h.ob.GJ hq,h.de.GJ hq,h.li.GJ hq,h.pl.GJ hq,h.pi.GJ hq⟩
theorem WZ.up {lo lo':Nat} {σ:Aa} {w:Nat} {b:BL} (h:WZ lo σ w b) (hl:lo≤lo'):WZ lo' σ w b:=⟨h.len,h.rng,h.at_.imp id fun ⟨q,T,rw',e,h1,h2⟩=>⟨q,T,rw',e,Nat.lt_of_lt_of_le h1 hl,h2⟩⟩
noncomputable def Ady (k:Nat) (B:Bg) (σ:Aa):Option (Value × Aa):=Ie k B.bl B.mu (B.ob.p,B.ob.n,B.ob.c) (B.de.p,B.de.n,B.de.c) (B.li.p,B.li.n,B.li.c) (B.pl.p,B.pl.n,B.pl.c) (B.pi.p,B.pi.n,B.pi.c) σ
theorem Afb (k:Nat) (hk:10000≤k) (B:Bg) (hb0:0≤B.bl∧B.bl<256) (hm0:0≤B.mu∧B.mu<256):∃ m r,MK m∧YR m∧ZL m r∧m.births≤40 ∧ ∀ lo σ,kI lo σ B→lo≤σ.length →
  ∃ σ' I t,Ady (k+14) B σ=some (.pointer (aX I),σ')∧Sn σ' I m m t r r∧(∀ q ∈ I.fl,σ.length≤q)∧σ.length≤σ'.length ∧ ∀ q,q<σ.length→σ'[q]?=σ[q]?:=by
 have e23:=Int.tmod_nonneg 23 hb0.1
 have e23':=Int.tmod_lt_of_pos B.bl (show (0:Int)<23 by decide)
 have e4:=Int.tmod_nonneg 4 hm0.1
 have e4':=Int.tmod_lt_of_pos B.mu (show (0:Int)<4 by decide)
 obtain ⟨nb,hnb⟩:∃ nb:Nat,2+B.bl.tmod 23=(nb:Int):=⟨(2+B.bl.tmod 23).toNat,by omega⟩
 obtain ⟨mu,hmu⟩:∃ mu:Nat,1+B.mu.tmod 4=(mu:Int):=⟨(1+B.mu.tmod 4).toNat,by omega⟩
 have hM0:MK (Mr nb):=MK.new (by omega) (by omega)
 obtain ⟨r0,hr0⟩:∃ r0:Ky,(⟨mu,List.replicate (16*mu) 0,List.replicate 16 0,[]⟩:Ky)=r0:=⟨_,rfl⟩
 have hL0:∀ m,ZL m r0:=fun m v hv=>by
  rw[← hr0] at hv
  unfold Ky.all at hv
  simp only[List.mem_append,List.mem_replicate,List.not_mem_nil,or_false] at hv
  exact .inl (by rcases hv with hv | hv <;> exact hv.2)
 obtain ⟨m1,A1,A2,A3,A4,L0⟩:=np k (by omega) B r0 (min B.ob.n 40) 0 (Mr nb) hM0 (Tu.new nb) (by simp[Mr]) (by omega)
 obtain ⟨m2,B1,B2,B3,B4,L1⟩:=nq (k+1) (by omega) B r0 (min B.de.n 20) 0 m1 A1 A2 (by omega)
 obtain ⟨m3,C1,C2,C3,C4,L2⟩:=nr (k+1) (by omega) B r0 (min B.li.n 120) 0 m2 B1 B2.s (by omega)
 obtain ⟨r4,D1,L3⟩:=ns (k+1) (by omega) B m3 C1 (min B.pl.n 20) 0 r0 (hL0 m3) (by omega)
 obtain ⟨m5,E1,E2,E3,E4,E5,L4⟩:=nu (k+1) (by omega) B r4 (min B.pi.n 8) 0 m3 C1 C2 D1 (by omega)
 refine ⟨m5,r4,E1,E2,E3,by rw[E4,C3,B3]; exact A3,fun lo σ hB hlo=>?_⟩
 obtain ⟨BX,hBX⟩:∃ BX,A6.cells [.int .u8 B.bl,.int .u8 B.mu,.slice B.ob.p B.ob.n B.ob.c,.slice B.de.p B.de.n B.de.c,.slice B.li.p B.li.n B.li.c,.slice B.pl.p B.pl.n B.pl.c,.slice B.pi.p B.pi.n B.pi.c] DA true=BX:=⟨_,rfl⟩
 have c0:(σ++[BX])[σ.length]?=some BX:=by simp
 have l0:(σ++[BX]).length=σ.length+1:=by simp
 obtain ⟨σ1,i,e1,h1,lo1,k1⟩:=Ah2 (k+8) (n:=nb) (by omega) (by omega) (σ++[BX])
 have e1':J5 (k+13) (nb:Int) (σ++[BX])=_:=e1
 have len1:=k1.len
 have q1:∀ q,q<σ.length+1→σ1[q]?=(σ++[BX])[q]?:=fun q hq=>k1.same q (by omega) fun hm=>by have:=lo1 q hm; omega
 obtain ⟨τ2,p,e2,h2,lo2⟩:=Aiy (k+12) (n:=mu) (by omega) (by omega) σ1
 have e2':HF (k+13) (mu:Int) σ1=_:=e2
 rw[hr0] at h2
 obtain ⟨A,hA⟩:∃ A,σ1++τ2=A:=⟨_,rfl⟩
 rw[hA] at e2' h2
 have lA:A.length=σ1.length+τ2.length:=by rw[← hA]; simp
 have qA:∀ q,q<σ1.length→A[q]?=σ1[q]?:=fun q hq=>by rw[← hA,List.getElem?_append_left hq]
 obtain ⟨S0,hS0⟩:∃ S0,A6.cells [.pointer (AV i),.pointer (MV p),.pointer none,.pointer none] BF true=S0:=⟨_,rfl⟩
 obtain ⟨τ4,j,e4,h4,lo4⟩:=Agn (k+12) (n:=nb) (by omega) (by omega) (A++[S0])
 have e4':Pz (k+13) (nb:Int) (A++[S0])=_:=e4
 obtain ⟨C,hC⟩:∃ C,A++[S0]++τ4=C:=⟨_,rfl⟩
 rw[hC] at e4' h4
 have lC:C.length=A.length+1+τ4.length:=by rw[← hC]; simp; omega
 have cC:C[A.length]?=some S0:=by rw[← hC,List.getElem?_append_left (by simp)]; simp
 have qC:∀ q,q<A.length→C[q]?=A[q]?:=fun q hq=>by rw[← hC,List.append_assoc,List.getElem?_append_left hq]
 have s4:Kx C A.length 2 (.pointer (Cp j))=some (C.set A.length (.cells [.pointer (AV i),.pointer (MV p),.pointer (Cp j),.pointer none] BF true)):=by
  rw[← hS0] at cC; simp[Kx,cC]
 obtain ⟨D,hD⟩:∃ D,C.set A.length (.cells [.pointer (AV i),.pointer (MV p),.pointer (Cp j),.pointer none] BF true)=D:=⟨_,rfl⟩
 rw[hD] at s4
 have lD:D.length=C.length:=by rw[← hD]; simp
 have cD:D[A.length]?=some (.cells [.pointer (AV i),.pointer (MV p),.pointer (Cp j),.pointer none] BF true):=by rw[← hD,List.getElem?_set_self (by omega)]
 have qD:∀ q,q≠A.length→D[q]?=C[q]?:=fun q hq=>by rw[← hD,List.getElem?_set_ne (Ne.symm hq)]
 obtain ⟨τ6,q,e6,h6,lo6⟩:=Aix (k+11) (by omega) (n:=mu) (by omega) (by omega) D
 have e6':PA (k+13) (mu:Int) D=_:=e6
 rw[hr0] at h6
 obtain ⟨E,hE⟩:∃ E,D++τ6=E:=⟨_,rfl⟩
 rw[hE] at e6' h6
 have qE:∀ q,q<D.length→E[q]?=D[q]?:=fun q hq=>by rw[← hE,List.getElem?_append_left hq]
 have lE:D.length≤E.length:=by rw[← hE]; simp
 have cE:=(qE A.length (by omega)).trans cD
 have s6:Kx E A.length 3 (.pointer (Yu q))=some (E.set A.length (.cells [.pointer (AV i),.pointer (MV p),.pointer (Cp j),.pointer (Yu q)] BF true)):=by simp[Kx,cE]
 obtain ⟨F,hF⟩:∃ F,E.set A.length (.cells [.pointer (AV i),.pointer (MV p),.pointer (Cp j),.pointer (Yu q)] BF true)=F:=⟨_,rfl⟩
 rw[hF] at s6
 have lF:F.length=E.length:=by rw[← hF]; simp
 have cF:F[A.length]?=some (.cells [.pointer (AV i),.pointer (MV p),.pointer (Cp j),.pointer (Yu q)] BF true):=by rw[← hF,List.getElem?_set_self (by omega)]
 have qF:∀ x,x≠A.length→F[x]?=E[x]?:=fun x hx=>by rw[← hF,List.getElem?_set_ne (Ne.symm hx)]
 have low:∀ x,x<A.length→F[x]?=A[x]?:=fun x hx=>by rw[qF x (by omega),qE x (by omega),qD x (by omega),qC x hx]
 have li:=h1.lt
 have lp:=h2.lt
 have lj:=h4.lt
 have lq:=h6.lt
 have S:Sn F ⟨A.length,i,j,p,q⟩ (Mr nb) (Mr nb) ⟨List.replicate nb (0,0),[],[],0⟩ r0 r0:=by
  refine ⟨cF,h1.AF fun x hx=>?_,hM0,⟨h4.AF (fun x hx=>?_) (by omega),YS.new nb,Inv.new nb,Inv2.new nb,hM0.sh.wl,hM0.nb,hM0.nt⟩,OB.new nb,hM0,h2.AF fun x hx=>low x (lp x hx),h6.AF fun x hx=>?_,⟨?_,fun L hL x hx=>?_⟩⟩
  ·have:=li x hx
   rw[low x (by omega),qA x this]
  ·have g1:=lo4 x hx
   have g2:=lj x hx
   rw[List.length_append,List.length_singleton] at g1
   rw[qF x (by omega),qE x (by omega),qD x (by omega)]
  ·have g1:=lo6 x hx
   rw[qF x (by omega)]
  ·have d1:∀ x ∈ i.l,x<σ1.length:=li
   have d2:∀ x ∈ p.l,σ1.length≤x∧x<A.length:=fun x hx=>⟨lo2 x hx,lp x hx⟩
   have d3:∀ x ∈ j.l,A.length<x∧x<D.length:=fun x hx=>by
    have g1:=lo4 x hx
    have g2:=lj x hx
    rw[List.length_append,List.length_singleton] at g1
    omega
   have d4:∀ x ∈ q.l,D.length≤x:=lo6
   show [i.l,j.l,p.l,q.l,[A.length]].Pairwise Dj
   simp only[List.pairwise_cons,List.mem_cons,List.not_mem_nil,or_false,forall_eq_or_imp,forall_eq,List.Pairwise.nil,and_true,false_implies,implies_true]
   refine ⟨⟨?_, ?_, ?_, ?_⟩,⟨?_, ?_, ?_⟩,⟨?_, ?_⟩, ?_⟩
   ·exact fun x hx hm=>by have:=d1 x hx; have:=d3 x hm; omega
   ·exact fun x hx hm=>by have:=d1 x hx; have:=d2 x hm; omega
   ·exact fun x hx hm=>by have:=d1 x hx; have:=d4 x hm; omega
   ·exact fun x hx hm=>by have:=d1 x hx; have:=List.mem_singleton.1 hm; omega
   ·exact fun x hx hm=>by have:=d3 x hx; have:=d2 x hm; omega
   ·exact fun x hx hm=>by have:=d3 x hx; have:=d4 x hm; omega
   ·exact fun x hx hm=>by have:=d3 x hx; have:=List.mem_singleton.1 hm; omega
   ·exact fun x hx hm=>by have:=d2 x hx; have:=d4 x hm; omega
   ·exact fun x hx hm=>by have:=d2 x hx; have:=List.mem_singleton.1 hm; omega
   ·exact fun x hx hm=>by have:=d4 x hx; have:=List.mem_singleton.1 hm; omega
  ·have hL:L ∈ [i.l,j.l,p.l,q.l,[A.length]]:=hL
   simp only[List.mem_cons,List.not_mem_nil,or_false] at hL
   rcases hL with rfl | rfl | rfl | rfl | rfl
   ·have:=li x hx; omega
   ·have:=lj x hx; omega
   ·have:=lp x hx; omega
   ·have:=lq x hx; omega
   ·have:=List.mem_singleton.1 hx; omega
 have qlow:∀ x,x<σ.length+1→F[x]?=(σ++[BX])[x]?:=fun x hx=>by rw[low x (by omega),qA x (by omega),q1 x hx]
 have qlow0:∀ x,x<σ.length→F[x]?=σ[x]?:=fun x hx=>by rw[qlow x (by omega),List.getElem?_append_left hx]
 have hBF:=hB.GJ (σ':=F) fun x hx=>qlow0 x (by omega)
 have M0:Mk (σ.length+1) F ⟨A.length,i,j,p,q⟩ (Mr nb) ⟨List.replicate nb (0,0),[],[],0⟩ r0 A.length σ.length B:=by
  refine ⟨S,rfl,⟨by rw[qlow _ (by omega),c0,← hBX],by omega,hb0,hm0,hBF.ob.up (by omega),hBF.de.up (by omega),hBF.li.up (by omega),hBF.pl.up (by omega),hBF.pi.up (by omega)⟩,fun x hx=>?_,by omega⟩
  obtain ⟨L,hL,hx⟩:=List.mem_flatten.1 hx
  have hL:L ∈ [i.l,j.l,p.l,q.l,[A.length]]:=hL
  simp only[List.mem_cons,List.not_mem_nil,or_false] at hL
  rcases hL with rfl | rfl | rfl | rfl | rfl
  ·have:=lo1 x hx; omega
  ·have:=lo4 x hx; rw[List.length_append] at this; omega
  ·have:=lo2 x hx; omega
  ·have:=lo6 x hx; omega
  ·have:=List.mem_singleton.1 hx; omega
 obtain ⟨μ1,I1,t1,f1,M1,v1⟩:=L0 (σ.length+1) σ.length A.length (k+13) F _ _ (by omega) M0
 obtain ⟨μ2,I2,t2,f2,M2,v2⟩:=L1 (σ.length+1) σ.length A.length (k+13) μ1 _ _ (by omega) M1
 obtain ⟨μ3,I3,t3,f3,M3,v3⟩:=L2 (σ.length+1) σ.length A.length (k+13) μ2 _ _ (by omega) M2
 obtain ⟨μ4,I4,t4,f4,M4,v4⟩:=L3 (σ.length+1) σ.length A.length (k+13) μ3 _ _ (by omega) M3
 obtain ⟨μ5,I5,t5,f5,M5,v5⟩:=L4 (σ.length+1) σ.length A.length (k+13) μ4 _ _ (by omega) M4
 have vv:=(((v1.trans v2).trans v3).trans v4).trans v5
 refine ⟨μ5,I5,t5, ?_,M5.s,fun x hx=>by have:=M5.new x hx; omega,by have:=M5.ll; omega,fun x hx=>(M0.low vv x (by omega)).trans (qlow0 x hx)⟩
 have wb:Ce B.bl=B.bl:=Ak (by unfold AU; omega)
 have wm:Ce B.mu=B.mu:=Ak (by unfold AU; omega)
 have wn:Ce (nb:Int)=(nb:Int):=Ak (by unfold AU; omega)
 have wu:Ce (mu:Int)=(mu:Int):=Ak (by unfold AU; omega)
 have x0:Df .u8 (σ++[BX]) σ.length 0=some B.bl:=by rw[← hBX,BI]; rfl
 have x1:Df .u8 (σ++[BX]) σ.length 1=some B.mu:=by rw[← hBX,BI]; rfl
 have f1':Cy (k+13) (k+13) σ.length A.length 0 F=_:=f1
 have f2':Cz (k+13) (k+13) σ.length A.length 0 μ1=_:=f2
 have f3':BU (k+13) (k+13) σ.length A.length 0 μ2=_:=f3
 have f4':C0 (k+13) (k+13) σ.length A.length 0 μ3=_:=f4
 have f5':C5 (k+13) (k+13) σ.length A.length 0 μ4=_:=f5
 unfold Ady
 rw[aA,OJ]
 simp only[sw,Ad,Af,Ae,AM,hBX,Nat.zero_add,Nat.reduceAdd,x0,x1,Option.bind_some,wb,wm,hnb,hmu,wn,wu,show ((23:Int)=0)=False from by simp,show ((4:Int)=0)=False from by simp,if_false,e1',Z8,e2',Aku,cond_false,Ajw,bne_self_eq_false,hS0,e4',s4,e6',s6,f1',f2',f3',f4',f5',if_true]
 unfold aX
 rw[M5.sb]
end Go.Proofs.YtphkfdnecpacmaaGreat
end
section
namespace Go.Proofs.YtphkfdnecpacmaaGreat
open Go Go.AX
noncomputable local instance qGX:AA:=Aw
local instance nGX:Kn:=⟨true⟩
variable {σ:Aa} {m:HM} {r:Ky} {s:TC} {i:DB} {p:PI}
theorem u7.new {nb:Nat} (look:Bool) (born:Int):u7 nb (iO nb look born):=
 ⟨by simp[iO],Nat.zero_le _,fun v hv=>by simp[iO] at hv,Nat.zero_le _,fun _=>rfl,fun _=>rfl⟩
theorem Abm (k:Nat) (hk:10≤k) (h:An σ i m) (hM:MK m) (hr:Mc σ p r) (hd:Fp σ [i.l,p.l]) (look:Bool) (born:Int):
  ∃ τ c,PE (k+5) (AV i) (MV p) look born σ=some (.tuple #[.pointer (Hs c),.int .i64 0],σ++τ)∧R5 (σ++τ) i p c m r (iO m.bls.length look born) ∧ ∀ q ∈ c.l,σ.length≤q:=by
 have hnb:=hM.nb
 have hnt:=hM.nt
 have hm1:=hr.ok.m1
 have eB:∀ μ,An μ i m→Av (k+4) (AV i) μ=some (.int .i64 ((m.bls.length:Nat):Int),μ):=fun μ hμ=>Pn (k+2) hμ
 have eM:CX (k+4) (MV p) σ=_:=ux (k+2) hr
 obtain ⟨S0,hS0⟩:∃ S0,A6.cells [.pointer (AV i),.pointer (MV p),.bool look,.int .i64 born,.int .i64 (0:Int),.pointer none,.slice none 0 0,.slice none 0 0,.int .i64 (0:Int)] HK true=S0:=⟨_,rfl⟩
 have h1:=h.app [S0]
 have e1:((m.bls.length:Nat):Int)*64=((64*m.bls.length:Nat):Int):=by omega
 have e2:Ce ((64*m.bls.length:Nat):Int)=((64*m.bls.length:Nat):Int):=Ak (by unfold AU; omega)
 have e3:((64*m.bls.length:Nat):Int).tdiv 2=((32*m.bls.length:Nat):Int):=by rw[show ((2:Int))=((2:Nat):Int) from rfl,sx]; congr 1; omega
 have e4:Ce ((32*m.bls.length:Nat):Int)=((32*m.bls.length:Nat):Int):=Ak (by unfold AU; omega)
 obtain ⟨τ,tb,wb,e5,ht,lt1,lt2,hne⟩:=tR k hk (e:=32*m.bls.length) (by omega) (by omega) (σ++[S0])
 rw[List.length_append,List.length_singleton] at lt1 lt2
 have tl:=ht.lt
 have c0:(σ++[S0]++τ)[σ.length]?=some S0:=by rw[List.getElem?_append_left (by simp)]; simp
 have es:Kx (σ++[S0]++τ) σ.length 5 (.pointer (some ⟨tb,0,none⟩))=some ((σ++[S0]++τ).set σ.length (.cells (Hc ⟨σ.length,tb,wb,(none,0,0),(none,0,0)⟩ i.hb p.rb (iO m.bls.length look born)) HK true)):=by
  rw[← hS0] at c0 ⊢
  simp only[Kx,c0]
  rfl
 obtain ⟨F,hF⟩:∃ F,(σ++[S0]++τ).set σ.length (.cells (Hc ⟨σ.length,tb,wb,(none,0,0),(none,0,0)⟩ i.hb p.rb (iO m.bls.length look born)) HK true)=F:=⟨_,rfl⟩
 rw[hF] at es
 have lF:F.length=σ.length+1+τ.length:=by rw[← hF,List.length_set,List.length_append,List.length_append,List.length_singleton]
 have low:∀ q,q<σ.length→F[q]?=σ[q]?:=fun q hq=>by rw[← hF,List.getElem?_set_ne (by omega),List.append_assoc,List.getElem?_append_left hq]
 obtain ⟨τ',hτ'⟩:∃ τ',F=σ++τ':=RW (by omega) low
 refine ⟨τ',⟨σ.length,tb,wb,(none,0,0),(none,0,0)⟩, ?_, ?_,fun q hq=>?_⟩
 ·rw[il,dh]
  simp only[sw,Ad,Af,Ae,eB _ h,Option.bind_some,Aj,decide_eq_false (show ¬ ((m.bls.length:Nat):Int)≤0 by omega),cond_false,eM,show (((r.mu:Nat):Int) == 0)=false from by rw[beq_eq_false_iff_ne]; omega,AM,hS0,eB _ h1,e1,e2,e3,e4,show ((2:Int)=0)=False from by simp,if_false,e5,Z8,Nat.zero_add,es,hτ']
 ·rw[← hτ']
  have co:Gl F ⟨σ.length,tb,wb,(none,0,0),(none,0,0)⟩ i.hb p.rb m.bls.length (iO m.bls.length look born):=by
   refine ⟨by rw[← hF]; exact List.getElem?_set_self (by rw[List.length_append,List.length_append,List.length_singleton]; omega),ht.same (by rw[← hF]; exact List.getElem?_set_ne (by omega)) (by rw[← hF]; exact List.getElem?_set_ne (by omega)),B6.nil _,B6.nil _,⟨by show σ.length≠tb; omega,by show σ.length≠wb; omega,hne,fun q hq=>by simp[hs] at hq,fun q hq=>by simp[hs] at hq⟩⟩
  refine ⟨h.AF fun q hq=>low q (h.lt q hq),hM,hr.AF fun q hq=>low q (hr.lt q hq),co, ?_,u7.new look born⟩
  have hc:∀ q ∈ (⟨σ.length,tb,wb,(none,0,0),(none,0,0)⟩:CI).l,σ.length≤q:=fun q hq=>by
   rcases CI.mem hq with hq | hq | hq | hq | hq
   ·exact Nat.le_of_eq hq.symm
   ·have hq:q=tb:=hq; omega
   ·have hq:q=wb:=hq; omega
   ·simp[hs] at hq
   ·simp[hs] at hq
  have hF':=hd.cons (σ':=F) (L:=(⟨σ.length,tb,wb,(none,0,0),(none,0,0)⟩:CI).l) (fun q hq=>⟨hc q hq,co.lt q hq⟩) (by omega)
  exact hF'.sub [1,2,0] (by decide) (by simp) rfl
 ·rcases CI.mem hq with hq | hq | hq | hq | hq
  ·exact Nat.le_of_eq hq.symm
  ·have hq:q=tb:=hq; omega
  ·have hq:q=wb:=hq; omega
  ·simp[hs] at hq
  ·simp[hs] at hq
structure XI where
 xb:Nat
 kb:Nat
 I:So
 c:CI
def XI.Ls (X:XI):List (List Nat):=[X.I.i.l,X.I.p.l,X.c.l,[X.xb],[X.kb],[X.I.sb]]
abbrev Aki (X:XI):Option Addr:=some ⟨X.xb,0,none⟩
abbrev iI (X:XI):Option Addr:=some ⟨X.kb,0,none⟩
structure hY (σ:Aa) (X:XI) (m:HM) (r:Ky) (s:TC):Prop where
 run:σ[X.xb]?=some (.cells [.pointer (aX X.I),.pointer (iI X),.slice none 0 0,.slice none 0 0,.int .i64 0] MA true)
 col:σ[X.kb]?=some (.cells [.pointer (Hs X.c)] Rj true)
 sc:σ[X.I.sb]?=some (.cells (JT X.I) BF true)
 t:R5 σ X.I.i X.I.p X.c m r s
 fp:Fp σ X.Ls
variable {X:XI}
theorem hY.GC (h:hY σ X m r s):Lw σ X.xb 1=some (iI X):=by simp[Lw,Gg,h.run,Oe]
theorem hY.Kw (h:hY σ X m r s):Lw σ X.xb 0=some (aX X.I):=by simp[Lw,Gg,h.run,Oe]
theorem hY.ldH (h:hY σ X m r s):Lw σ X.I.sb 0=some (AV X.I.i):=by simp[Lw,Gg,h.sc,JT,Oe]
theorem hY.AF {σ':Aa} (h:hY σ X m r s) (hl:σ.length≤σ'.length) (hq:∀ L ∈ X.Ls,∀ q ∈ L,σ'[q]?=σ[q]?):hY σ' X m r s:=
 ⟨(hq [X.xb] (by simp[XI.Ls]) _ (by simp)).trans h.run,(hq [X.kb] (by simp[XI.Ls]) _ (by simp)).trans h.col,(hq [X.I.sb] (by simp[XI.Ls]) _ (by simp)).trans h.sc,h.t.AF hl (hq _ (by simp[XI.Ls])) (hq _ (by simp[XI.Ls])) (hq _ (by simp[XI.Ls])),⟨h.fp.dj,fun L hL q hm=>Nat.lt_of_lt_of_le (h.fp.lt L hL q hm) hl⟩⟩
theorem hY.app (h:hY σ X m r s) (τ:Aa):hY (σ++τ) X m r s:=h.AF (by simp) fun L hL q hq=>List.getElem?_append_left (h.fp.lt L hL q hq)
theorem hY.core (k:Nat) (h:hY σ X m r s):Ao (k+1) (iI X) σ=some (.pointer (Hs X.c),σ):=by
 have l0:Lw σ X.kb 0=some (Hs X.c):=by simp[Lw,Gg,h.col,Oe]
 rw[NK,Ir]
 simp only[sw,Ad,Af,Ae,show NW P FL (.pointer (iI X)) (.pointer none)=some false from by kernel_rfl,Option.bind_some,cond_false,Nat.zero_add,l0]
theorem hY.turn {σ':Aa} {c':CI} {m':HM} {s':TC} (h:hY σ X m r s) (T:R5 σ' X.I.i X.I.p c' m' r s') (hm:Mv (X.I.i.l++X.c.l) (X.I.i.l++c'.l) σ σ') (hc:c'.cb=X.c.cb):
  hY σ' { X with c:=c' } m' r s'∧Mv X.Ls.flatten ({ X with c:=c' }:XI).Ls.flatten σ σ':=by
 have dj:=fun {a b:Nat} (ha:a<X.Ls.length) (hb:b<X.Ls.length) (hne:b≠a)=>h.fp.ne ha hb hne
 have GJ:∀ y (hy:y<X.Ls.length),y≠0→y≠2→(∀ q ∈ X.Ls[y],σ'[q]?=σ[q]?)∧(∀ q ∈ X.Ls[y],q ∉ X.I.i.l++c'.l) ∧ ∀ q ∈ X.Ls[y],q<σ'.length:=fun y hy h0 h2=>hm.GJ (fun q hq=>h.fp.lt _ (List.getElem_mem hy) q hq) fun q hq hm'=>by
  rcases List.mem_append.1 hm' with hm' | hm'
  ·exact h.fp.ne (x:=y) (y:=0) hy (by simp[XI.Ls]) (Ne.symm h0) q hq hm'
  ·exact h.fp.ne (x:=y) (y:=2) hy (by simp[XI.Ls]) (Ne.symm h2) q hq hm'
 obtain ⟨a3,b3,g3⟩:=GJ 3 (by simp[XI.Ls]) (by decide) (by decide)
 obtain ⟨a4,b4,g4⟩:=GJ 4 (by simp[XI.Ls]) (by decide) (by decide)
 obtain ⟨a5,b5,g5⟩:=GJ 5 (by simp[XI.Ls]) (by decide) (by decide)
 have xb:=a3 X.xb (by simp[XI.Ls])
 have kb:=a4 X.kb (by simp[XI.Ls])
 have sb:=a5 X.I.sb (by simp[XI.Ls])
 have D:∀ {a b:Nat} (ha:a<6) (hb:b<6),b≠a→Dj (X.Ls[a]'(by simpa [XI.Ls] using ha)) (X.Ls[b]'(by simpa [XI.Ls] using hb)):=fun ha hb hne=>h.fp.ne _ _ hne
 refine ⟨⟨xb.trans h.run, ?_,sb.trans h.sc,T,⟨?_,fun L hL q hq=>?_⟩⟩,hm.wide (fun q hq=>?_) fun q hq=>?_⟩
 ·rw[kb,h.col]; unfold Hs; rw[hc]
 ·have t01:=T.fp.ne (x:=0) (y:=1) (by simp) (by simp) (by decide)
  have t02:=T.fp.ne (x:=0) (y:=2) (by simp) (by simp) (by decide)
  have t12:=T.fp.ne (x:=1) (y:=2) (by simp) (by simp) (by decide)
  have o3:X.xb ∉ X.I.i.l++c'.l:=b3 _ (by simp[XI.Ls])
  have o4:X.kb ∉ X.I.i.l++c'.l:=b4 _ (by simp[XI.Ls])
  have o5:X.I.sb ∉ X.I.i.l++c'.l:=b5 _ (by simp[XI.Ls])
  have sg:∀ {L:List Nat} {q:Nat},q ∉ L→Dj L [q]:=fun hn x hx hm'=>hn (by rw[← List.mem_singleton.1 hm']; exact hx)
  have p3:Dj X.I.p.l [X.xb]:=D (a:=1) (b:=3) (by decide) (by decide) (by decide)
  have p4:Dj X.I.p.l [X.kb]:=D (a:=1) (b:=4) (by decide) (by decide) (by decide)
  have p5:Dj X.I.p.l [X.I.sb]:=D (a:=1) (b:=5) (by decide) (by decide) (by decide)
  have q34:Dj [X.xb] [X.kb]:=D (a:=3) (b:=4) (by decide) (by decide) (by decide)
  have q35:Dj [X.xb] [X.I.sb]:=D (a:=3) (b:=5) (by decide) (by decide) (by decide)
  have q45:Dj [X.kb] [X.I.sb]:=D (a:=4) (b:=5) (by decide) (by decide) (by decide)
  show [X.I.i.l,X.I.p.l,c'.l,[X.xb],[X.kb],[X.I.sb]].Pairwise Dj
  have n1:∀ {q},q ∉ X.I.i.l++c'.l→q ∉ X.I.i.l:=fun hn hm'=>hn (List.mem_append.2 (.inl hm'))
  have n2:∀ {q},q ∉ X.I.i.l++c'.l→q ∉ c'.l:=fun hn hm'=>hn (List.mem_append.2 (.inr hm'))
  simp only[List.pairwise_cons,List.mem_cons,List.not_mem_nil,or_false,forall_eq_or_imp,forall_eq,List.Pairwise.nil,and_true,false_implies,implies_true]
  exact ⟨⟨t01,t02,sg (n1 o3),sg (n1 o4),sg (n1 o5)⟩,⟨t12,p3,p4,p5⟩,⟨sg (n2 o3),sg (n2 o4),sg (n2 o5)⟩,⟨q34,q35⟩,q45⟩
 ·have hL:L ∈ [X.I.i.l,X.I.p.l,c'.l,[X.xb],[X.kb],[X.I.sb]]:=hL
  simp only[List.mem_cons,List.not_mem_nil,or_false] at hL
  rcases hL with rfl | rfl | rfl | rfl | rfl | rfl
  ·exact T.h.lt q hq
  ·exact T.rt.lt q hq
  ·exact T.co.lt q hq
  ·exact g3 q (by simpa [XI.Ls] using hq)
  ·exact g4 q (by simpa [XI.Ls] using hq)
  ·exact g5 q (by simpa [XI.Ls] using hq)
 ·rcases List.mem_append.1 hq with hq | hq
  ·exact List.mem_flatten.2 ⟨_,by simp[XI.Ls],hq⟩
  ·exact List.mem_flatten.2 ⟨X.c.l,by simp[XI.Ls],hq⟩
 ·obtain ⟨L,hL,hq⟩:=List.mem_flatten.1 hq
  have hL:L ∈ [X.I.i.l,X.I.p.l,c'.l,[X.xb],[X.kb],[X.I.sb]]:=hL
  simp only[List.mem_cons,List.not_mem_nil,or_false] at hL
  rcases hL with rfl | rfl | rfl | rfl | rfl | rfl
  ·exact .inl (List.mem_flatten.2 ⟨_,by simp[XI.Ls],hq⟩)
  ·exact .inl (List.mem_flatten.2 ⟨X.I.p.l,by simp[XI.Ls],hq⟩)
  ·exact .inr (.inl (List.mem_append.2 (.inr hq)))
  ·exact .inl (List.mem_flatten.2 ⟨[X.xb],by simp[XI.Ls],hq⟩)
  ·exact .inl (List.mem_flatten.2 ⟨[X.kb],by simp[XI.Ls],hq⟩)
  ·exact .inl (List.mem_flatten.2 ⟨[X.I.sb],by simp[XI.Ls],hq⟩)
def XG (mm:Option (Value × Aa)) (σ:Aa) (X:XI) (r:Ky) (v:Value) (q:HM × TC):Prop:=
 ∃ σ' X',mm=some (v,σ')∧hY σ' X' q.1 r q.2∧Mv X.Ls.flatten X'.Ls.flatten σ σ'∧X'.xb=X.xb∧X'.kb=X.kb
theorem zS (k:Nat) (hk:5000≤k) (h:hY σ X m r s) (hp:s.ph=0) (hs:cS m r=true):XG (BB (k+14) (iI X) σ) σ X r (.int .i64 0) (m,tV m r s):=by
 obtain ⟨σ',c',e,T,hm,hc⟩:=Aca k hk h.t hp hs
 obtain ⟨h',m'⟩:=h.turn T hm hc
 refine ⟨σ',_, ?_,h',m',rfl,rfl⟩
 rw[Nh,H5]
 have ec:Ao (k+13) (iI X) σ=_:=h.core (k+12)
 simp only[sw,Ad,Af,Ae,ec,Option.bind_some,Oe,e,Aj]
theorem Ac2 (k:Nat) (hk:20000≤k) (h:hY σ X m r s) {N:Nat} (h1:1≤N) (hN:N≤10000):XG (Bk (k+17) (iI X) (N:Int) σ) σ X r (.tuple #[.int .i64 ((EX r N (m,s)).1:Int),.int .i64 0]) (EX r N (m,s)).2:=by
 obtain ⟨σ',c',e,T,hm,hc⟩:=Afi k hk h.t h1 hN
 obtain ⟨h',m'⟩:=h.turn T hm hc
 refine ⟨σ',_, ?_,h',m',rfl,rfl⟩
 rw[NJ,Iq]
 have ec:Ao (k+16) (iI X) σ=_:=h.core (k+15)
 simp only[sw,Ad,Af,Ae,ec,Option.bind_some,Oe,e,Fq]
theorem zR (k:Nat) (h:hY σ X m r s):BA (k+3) (iI X) σ=some (.int .i64 s.ph,σ):=by
 rw[Ng,H4]
 have ec:Ao (k+2) (iI X) σ=_:=h.core (k+1)
 have ep:G8 (k+2) (Hs X.c) σ=some (.int .i64 s.ph,σ):=by
  rw[TY,MQ]
  simp only[sw,Ad,Af,Ae,XQ k h.t.co,Option.bind_some,Ar,Bool.not_true,cond_false,Nat.zero_add,Nat.add_zero,h.t.co.ld4]
 simp only[sw,Ad,Af,Ae,ec,Option.bind_some,Oe,ep,Aj]
theorem Ac1 (k:Nat) (h:hY σ X m r s):∃ l τ,BS (k+3) (iI X) σ=some (.slice l.1 l.2.1 l.2.2,σ++τ)∧B6 (σ++τ) l s.list:=by
 have hnt:=h.t.mo.nt
 have hlen:=h.t.tok.len
 obtain ⟨l,τ,ec2,li,_⟩:=ik k X.c.ls.1 s.list.length s.list (by omega) h.t.co.ls.holds
 refine ⟨l,τ, ?_,li⟩
 rw[NI,Ip]
 have ec:Ao (k+2) (iI X) σ=_:=h.core (k+1)
 have ep:Hp (k+2) (Hs X.c) σ=some (.slice l.1 l.2.1 l.2.2,σ++τ):=by
  rw[Vs,Ot]
  have em:A8 (k+1) (Hs X.c) σ=_:=XQ k h.t.co
  simp only[sw,Ad,Af,Ae,em,Option.bind_some,Ar,Bool.not_true,cond_false,Nat.zero_add,Nat.add_zero,h.t.co.ld6,ec2,H0]
 simp only[sw,Ad,Af,Ae,ec,Option.bind_some,Oe,ep,H0]
theorem Ac0 (k:Nat) (h:hY σ X m r s):∃ l τ,Fb (k+3) (iI X) σ=some (.slice l.1 l.2.1 l.2.2,σ++τ)∧B6 (σ++τ) l s.left:=by
 have hlf:=h.t.tok.lf
 obtain ⟨l,τ,ec2,li,_⟩:=ik k X.c.lf.1 s.left.length s.left (by omega) h.t.co.lf.holds
 refine ⟨l,τ, ?_,li⟩
 rw[Xm,L5]
 have ec:Ao (k+2) (iI X) σ=_:=h.core (k+1)
 have ep:Lm (k+2) (Hs X.c) σ=some (.slice l.1 l.2.1 l.2.2,σ++τ):=by
  rw[gb,T0]
  have em:A8 (k+1) (Hs X.c) σ=_:=XQ k h.t.co
  simp only[sw,Ad,Af,Ae,em,Option.bind_some,Ar,Bool.not_true,cond_false,Nat.zero_add,Nat.add_zero,h.t.co.ld7,ec2,H0]
 simp only[sw,Ad,Af,Ae,ec,Option.bind_some,Oe,ep,H0]
noncomputable def wV (k:Nat) (B:Bg) (σ:Aa):Option (Value × Aa):=NR k B.bl B.mu (B.ob.p,B.ob.n,B.ob.c) (B.de.p,B.de.n,B.de.c) (B.li.p,B.li.n,B.li.c) (B.pl.p,B.pl.n,B.pl.c) (B.pi.p,B.pi.n,B.pi.c) σ
theorem Acz (k:Nat) (hk:10000≤k) (B:Bg) (hb0:0≤B.bl∧B.bl<256) (hm0:0≤B.mu∧B.mu<256):∃ m r,MK m∧YR m∧ZL m r ∧ ∀ lo σ,kI lo σ B→lo≤σ.length →
  ∃ σ' X,wV (k+15) B σ=some (.pointer (Aki X),σ')∧hY σ' X m r (iO m.bls.length true 0)∧(∀ L ∈ X.Ls,∀ q ∈ L,σ.length≤q)∧σ.length≤σ'.length ∧ ∀ q,q<σ.length→σ'[q]?=σ[q]?:=by
 obtain ⟨m,r,hM,hR,hL,hB,run⟩:=Afb k hk B hb0 hm0
 refine ⟨m,r,hM,hR,hL,fun lo σ hA hlo=>?_⟩
 obtain ⟨BX,hBX⟩:∃ BX,A6.cells [.int .u8 B.bl,.int .u8 B.mu,.slice B.ob.p B.ob.n B.ob.c,.slice B.de.p B.de.n B.de.c,.slice B.li.p B.li.n B.li.c,.slice B.pl.p B.pl.n B.pl.c,.slice B.pi.p B.pi.n B.pi.c] DA true=BX:=⟨_,rfl⟩
 obtain ⟨σ1,I,t,e1,S,n1,l1,q1⟩:=run lo (σ++[BX]) (hA.GJ fun q hq=>List.getElem?_append_left (by omega)) (by rw[List.length_append]; omega)
 rw[List.length_append,List.length_singleton] at n1 l1 q1
 have flm:∀ {L:List Nat},L ∈ I.Ls → ∀ q ∈ L,σ.length+1≤q:=fun hL q hq=>n1 q (List.mem_flatten.2 ⟨_,hL,hq⟩)
 obtain ⟨τ,c,e2,T,n2⟩:=Abm (k+8) (by omega) S.h S.mo S.rt (S.fp.sub [0,2] (by decide) (by simp[So.Ls]) rfl) true 0
 have e2':PE (k+13) (AV I.i) (MV I.p) true 0 σ1=_:=e2
 have S2:=S.app τ
 obtain ⟨K0,hK0⟩:∃ K0,A6.cells [.pointer (Hs c)] Rj true=K0:=⟨_,rfl⟩
 obtain ⟨R0,hR0⟩:∃ R0,A6.cells [.pointer (aX I),.pointer (some ⟨(σ1++τ).length,0,none⟩),.slice none 0 0,.slice none 0 0,.int .i64 0] MA true=R0:=⟨_,rfl⟩
 have T3:R5 (σ1++τ++[K0]++[R0]) I.i I.p c m r (iO m.bls.length true 0):=(T.app [K0]).app [R0]
 have S3:=(S2.app [K0]).app [R0]
 have l2:(σ1++τ).length=σ1.length+τ.length:=List.length_append
 refine ⟨σ1++τ++[K0]++[R0],⟨(σ1++τ++[K0]).length,(σ1++τ).length,I,c⟩, ?_,⟨?_, ?_,S3.cell,T3, ?_⟩, ?_, ?_, ?_⟩
 ·have x0:Df .u8 (σ++[BX]) σ.length 0=some B.bl:=by rw[← hBX,BI]; rfl
  have x1:Df .u8 (σ++[BX]) σ.length 1=some B.mu:=by rw[← hBX,BI]; rfl
  have x2:Hr (σ++[BX]) σ.length 2=some (B.ob.p,B.ob.n,B.ob.c)∧Hr (σ++[BX]) σ.length 3=some (B.de.p,B.de.n,B.de.c)∧Hr (σ++[BX]) σ.length 4=some (B.li.p,B.li.n,B.li.c)∧Hr (σ++[BX]) σ.length 5=some (B.pl.p,B.pl.n,B.pl.c)∧Hr (σ++[BX]) σ.length 6=some (B.pi.p,B.pi.n,B.pi.c):=by
   simp[Hr,Gg,← hBX,H0]
  obtain ⟨y2,y3,y4,y5,y6⟩:=x2
  unfold Ady at e1
  have eI:KV (k+14) (AV I.i) (MV I.p) σ1=some (.tuple #[.pointer (some ⟨(σ1++τ).length,0,none⟩),.int .i64 0],σ1++τ++[K0]):=by
   rw[show k+14=(k+13)+1 from rfl,eK,Zb]
   simp only[sw,Ad,Af,Ae,e2',Option.bind_some,Z8,bne_self_eq_false,cond_false,AM,hK0]
  unfold wV
  rw[jN,Xf]
  simp only[sw,Ad,Af,Ae,AM,hBX,Nat.zero_add,Nat.reduceAdd,x0,x1,y2,y3,y4,y5,y6,Option.bind_some,e1,Oe,Aky,cond_false,S.Kw,S.GC,eI,Z8,show ∀ a:Addr,NW P FL (.pointer (some a)) (.pointer none)=some false from fun a=>by kernel_rfl,bne_self_eq_false,hR0]
 ·rw[List.getElem?_concat_length,← hR0]
 ·rw[List.getElem?_append_left (by simp),List.getElem?_concat_length,← hK0]
 ·have F0:Fp σ1 [I.i.l,I.p.l,[I.sb]]:=S.fp.sub [0,2,4] (by decide) (by simp[So.Ls]) rfl
  have F1:=F0.cons (σ':=σ1++τ) (L:=c.l) (fun q hq=>⟨n2 q hq,T.co.lt q hq⟩) (by omega)
  have F2:=F1.cons (σ':=σ1++τ++[K0]) (L:=[(σ1++τ).length]) (fun q hq=>by rw[List.mem_singleton.1 hq,List.length_append (bs:=[K0])]; simp) (by simp)
  have F3:=F2.cons (σ':=σ1++τ++[K0]++[R0]) (L:=[(σ1++τ++[K0]).length]) (fun q hq=>by rw[List.mem_singleton.1 hq]; simp) (by simp)
  exact F3.sub [3,4,2,0,1,5] (by decide) (by simp) rfl
 ·intro L hL q hq
  have hL:L ∈ [I.i.l,I.p.l,c.l,[(σ1++τ++[K0]).length],[(σ1++τ).length],[I.sb]]:=hL
  simp only[List.mem_cons,List.not_mem_nil,or_false] at hL
  rcases hL with rfl | rfl | rfl | rfl | rfl | rfl
  ·have:=flm (L:=I.i.l) (by simp[So.Ls]) q hq; omega
  ·have:=flm (L:=I.p.l) (by simp[So.Ls]) q hq; omega
  ·have:=n2 q hq; omega
  ·have:=List.mem_singleton.1 hq; simp at this; omega
  ·have:=List.mem_singleton.1 hq; omega
  ·have:=flm (L:=[I.sb]) (by simp[So.Ls]) q hq; omega
 ·simp; omega
 ·intro q hq
  rw[List.append_assoc,List.append_assoc,List.getElem?_append_left (by omega),q1 q (by omega),List.getElem?_append_left hq]
end Go.Proofs.YtphkfdnecpacmaaGreat
end
section
namespace Go.Proofs.YtphkfdnecpacmaaGreat
open Go Go.AX
noncomputable local instance qGY:AA:=Aw
local instance nGY:Kn:=⟨true⟩
variable {σ:Aa} {m:HM} {i:DB} {j:RI} {t:RM}
theorem RI.Aap {j:RI} {q:Nat}:q ∈ j.l↔q=j.hb∨q ∈ hs j.bs∨q ∈ hs j.os∨q ∈ hs j.fs∨q ∈ YN j.om:=RI.Lo
theorem Kz.Aiv (h:Kz σ j t) (x:Int × Int) (hn:t.bl.length≤5000) (T:TypeId):∃ s' μ1 μ',BH P Am (j.bs.1,t.bl.length,t.bl.length) (some ⟨σ.length,0,none⟩,1,1) (σ++[.cells [.int .i64 x.1,.int .i64 x.2] T true])=some (s',μ1) ∧
  Kx μ1 j.hb 0 (.slice s'.1 s'.2.1 s'.2.2)=some μ'∧Kz μ' { j with bs:=s' } { t with bl:=t.bl++[x] }∧Mv j.l ({ j with bs:=s' }:RI).l σ μ':=by
 have sep:=h.sep
 have lt:=h.lt
 obtain ⟨s',μ1,e1,g1,hs1⟩:=cy Ak1 Aks Ak4 rfl rfl (by decide) (by decide) (by decide) σ j.bs t.bl.length (Dc t.bl) 1 1 [.int .i64 x.1,.int .i64 x.2] T (by omega) (by decide) rfl h.bl
 have m1:=g1.mv
 have hf:=h.bl.form
 have e1':BH P Am (j.bs.1,t.bl.length,t.bl.length) (some ⟨σ.length,0,none⟩,1,1) (σ++[.cells [.int .i64 x.1,.int .i64 x.2] T true])=some (s',μ1):=by rw[← hf]; exact e1
 have m0:Mv (hs j.bs) (hs s') σ μ1:=m1
 have cell:=m0.Rl h.hp sep.hA
 have new:∀ q ∈ hs s',q ∈ hs j.bs∨σ.length≤q:=m0.new
 have nn:∀ {L:List Nat},(∀ q ∈ L,q ∈ j.l)→(∀ a ∈ hs j.bs,a ∉ L) → ∀ q ∈ hs s',q ∉ L:=fun hL hd q hq hm=>(new q hq).elim (fun h'=>hd q h' hm) fun h'=>by have:=lt q (hL q hm); omega
 have mem:=fun q=>@RI.Aap j q
 have GJ:∀ q ∈ j.l,q ∉ hs j.bs→μ1[q]?=σ[q]?:=fun q hq hn'=>m0.same q (lt q hq) hn'
 have sep':Sep { j with bs:=s' }:=⟨fun hm=>(new _ hm).elim sep.hA fun h'=>absurd (lt _ j.Pa) (Nat.not_lt.2 h'),sep.hB,sep.hC,sep.hD,
  nn (fun q hq=>(mem q).2 (.inr (.inr (.inl hq)))) sep.AB,nn (fun q hq=>(mem q).2 (.inr (.inr (.inr (.inl hq))))) sep.AC,nn (fun q hq=>(mem q).2 (.inr (.inr (.inr (.inr hq))))) sep.AD,sep.BC,sep.BD,sep.CD,sep.D⟩
 have bl':EL Am 2 μ1 s' (t.bl++[x]).length (Dc (t.bl++[x])):=by
  rw[List.length_append,show Dc (t.bl++[x])=Dc t.bl++[.int .i64 x.1,.int .i64 x.2] from oc _ _]
  exact hs1
 have ob':EL Ac 8 μ1 j.os t.ob.length (Ea t.ob j.om):=h.ob.AF fun a ha=>GJ _ ((mem _).2 (.inr (.inr (.inl (Ch.2 ⟨a,ha,rfl⟩))))) fun hm=>sep.AB _ hm (Ch.2 ⟨a,ha,rfl⟩)
 have fw':mU μ1 j.fs t.fw:=h.fw.AF fun a ha=>GJ _ ((mem _).2 (.inr (.inr (.inr (.inl (Ch.2 ⟨a,ha,rfl⟩)))))) fun hm=>sep.AC _ hm (Ch.2 ⟨a,ha,rfl⟩)
 have inn':∀ (y:Nat) (hy:y<t.ob.length) (hy':y<j.om.length),Ff μ1 j.om[y].1 t.ob[y].refs∧Ff μ1 j.om[y].2 t.ob[y].data:=fun y hy hy'=>⟨(h.inn y hy hy').1.AF fun b hb=>GJ _ (j.Kr hy' (.inl hb)) fun hm=>sep.AD _ hm (Kr hy' (.inl hb)),(h.inn y hy hy').2.AF fun b hb=>GJ _ (j.Kr hy' (.inr hb)) fun hm=>sep.AD _ hm (Kr hy' (.inr hb))⟩
 have wide:Mv j.l ({ j with bs:=s' }:RI).l σ μ1:=m0.wide (fun q hq=>(mem q).2 (.inr (.inl hq))) fun q hq=>by
  rcases RI.Aap.1 hq with hq | hq | hq | hq | hq
  ·exact .inl ((mem q).2 (.inl hq))
  ·exact .inr (.inl hq)
  ·exact .inl ((mem q).2 (.inr (.inr (.inl hq))))
  ·exact .inl ((mem q).2 (.inr (.inr (.inr (.inl hq)))))
  ·exact .inl ((mem q).2 (.inr (.inr (.inr (.inr hq)))))
 have lt':∀ q ∈ ({ j with bs:=s' }:RI).l,q<μ1.length:=fun q hq=>by
  rcases RI.Aap.1 hq with hq' | hq' | hq' | hq' | hq'
  ·exact Nat.lt_of_lt_of_le (lt q ((mem q).2 (.inl hq'))) m0.len
  ·obtain ⟨a,ha,rfl⟩:=Ch.1 hq'; exact hs1.lt a ha
  ·exact Nat.lt_of_lt_of_le (lt q ((mem q).2 (.inr (.inr (.inl hq'))))) m0.len
  ·exact Nat.lt_of_lt_of_le (lt q ((mem q).2 (.inr (.inr (.inr (.inl hq')))))) m0.len
  ·exact Nat.lt_of_lt_of_le (lt q ((mem q).2 (.inr (.inr (.inr (.inr hq')))))) m0.len
 refine ⟨s',μ1,_,e1',by simp only[Kx,cell]; rfl, ?_,wide.trans (Mv.set _ _ (RI.Pa { j with bs:=s' }))⟩
 exact Kz.vp (i:={ j with bs:=s' }) (t:={ t with bl:=t.bl++[x] }) bl' ob' fw' h.ol inn' sep' lt'
theorem Yr (om:List (Ci × Ci)) (p:Ci × Ci) (q:Nat):q ∈ YN (om++[p])↔q ∈ YN om∨q ∈ hs p.1∨q ∈ hs p.2:=by
 rw[Z5,List.mem_append]
 unfold YN
 simp
theorem Kz.Aiw (h:Kz σ j t) (o:RO) (p:Ci × Ci) (hn:t.ob.length≤5000) (T:TypeId) (h1:Ff σ p.1 o.refs) (h2:Ff σ p.2 o.data) (hp:∀ q,q ∈ hs p.1∨q ∈ hs p.2→q<σ.length∧q ∉ j.l) (hd:∀ q ∈ hs p.1,q ∉ hs p.2):∃ s' μ1 μ',BH P Ac (j.os.1,t.ob.length,t.ob.length) (some ⟨σ.length,0,none⟩,1,1) (σ++[.cells (Bf o p) T true])=some (s',μ1) ∧
  Kx μ1 j.hb 1 (.slice s'.1 s'.2.1 s'.2.2)=some μ'∧Kz μ' { j with os:=s',om:=j.om++[p] } { t with ob:=t.ob++[o] }∧σ.length≤μ'.length∧(∀ q,q<σ.length→q ∉ j.l→μ'[q]?=σ[q]?) ∧ ∀ q,q ∈ ({ j with os:=s',om:=j.om++[p] }:RI).l→q ∈ j.l∨σ.length≤q∨q ∈ hs p.1∨q ∈ hs p.2:=by
 have sep:=h.sep
 have lt:=h.lt
 obtain ⟨s',μ1,e1,g1,hs1⟩:=cy szO byO zzO rfl rfl (by decide) (by decide) (by decide) σ j.os t.ob.length (Ea t.ob j.om) 1 1 (Bf o p) T (by omega) (by decide) rfl h.ob
 have m0:Mv (hs j.os) (hs s') σ μ1:=g1.mv
 have hf:=h.ob.form
 have e1':BH P Ac (j.os.1,t.ob.length,t.ob.length) (some ⟨σ.length,0,none⟩,1,1) (σ++[.cells (Bf o p) T true])=some (s',μ1):=by rw[← hf]; exact e1
 have cell:=m0.Rl h.hp sep.hB
 have mem:=fun q=>@RI.Aap j q
 have new:∀ q ∈ hs s',q ∈ hs j.os∨σ.length≤q:=m0.new
 have GJ:∀ q ∈ j.l,q ∉ hs j.os→μ1[q]?=σ[q]?:=fun q hq hn'=>m0.same q (lt q hq) hn'
 have pO:∀ q,q ∈ hs p.1∨q ∈ hs p.2→q ∉ hs j.os:=fun q hq hm=>(hp q hq).2 ((mem q).2 (.inr (.inr (.inl hm))))
 have NX:∀ q,q ∈ hs p.1∨q ∈ hs p.2→μ1[q]?=σ[q]?:=fun q hq=>m0.same q (hp q hq).1 (pO q hq)
 have nj:∀ q ∈ hs s',q ∈ j.l→q ∈ hs j.os:=fun q hq hm=>(new q hq).elim id fun h'=>absurd (lt q hm) (Nat.not_lt.2 h')
 have nP:∀ q ∈ hs s',¬ (q ∈ hs p.1∨q ∈ hs p.2):=fun q hq hm=>(new q hq).elim (pO q hm) fun h'=>absurd (hp q hm).1 (Nat.not_lt.2 h')
 have sep':Sep { j with os:=s',om:=j.om++[p] }:=by
  refine ⟨sep.hA,fun hm=>sep.hB (nj _ hm j.Pa),sep.hC,fun hm=>?_,fun a ha hm=>sep.AB a ha (nj a hm ((mem a).2 (.inr (.inl ha)))),sep.AC,fun a ha hm=>?_,fun a ha hm=>sep.BC a (nj a ha ((mem a).2 (.inr (.inr (.inr (.inl hm)))))) hm,fun a ha hm=>?_,fun a ha hm=>?_, ?_⟩
  ·rcases (Yr _ _ _).1 hm with hm | hm
   ·exact sep.hD hm
   ·exact (hp _ hm).2 j.Pa
  ·rcases (Yr _ _ _).1 hm with hm | hm
   ·exact sep.AD a ha hm
   ·exact (hp _ hm).2 ((mem a).2 (.inr (.inl ha)))
  ·rcases (Yr _ _ _).1 hm with hm | hm
   ·exact sep.BD a (nj a ha ((mem a).2 (.inr (.inr (.inr (.inr hm)))))) hm
   ·exact nP a ha hm
  ·rcases (Yr _ _ _).1 hm with hm | hm
   ·exact sep.CD a ha hm
   ·exact (hp _ hm).2 ((mem a).2 (.inr (.inr (.inr (.inl ha)))))
  ·show (YN (j.om++[p])).Nodup
   rw[Z5,List.nodup_append]
   refine ⟨sep.D, ?_,fun a ha b hb e=>?_⟩
   ·unfold YN
    simp only[List.flatMap_cons,List.flatMap_nil,List.append_nil]
    rw[List.nodup_append]
    exact ⟨SW _,SW _,fun a ha b hb e=>hd a ha (e ▸ hb)⟩
   ·subst e
    have hb:a ∈ hs p.1∨a ∈ hs p.2:=by
     unfold YN at hb
     simpa using hb
    exact (hp a hb).2 ((mem a).2 (.inr (.inr (.inr (.inr ha)))))
 have bl':EL Am 2 μ1 j.bs t.bl.length (Dc t.bl):=h.bl.AF fun a ha=>GJ _ ((mem _).2 (.inr (.inl (Ch.2 ⟨a,ha,rfl⟩)))) fun hm=>sep.AB _ (Ch.2 ⟨a,ha,rfl⟩) hm
 have ob':EL Ac 8 μ1 s' (t.ob++[o]).length (Ea (t.ob++[o]) (j.om++[p])):=by
  rw[List.length_append,Yq _ _ _ _ h.ol,show Ea [o] [p]=Bf o p from by simp[Ea]]
  exact hs1
 have fw':mU μ1 j.fs t.fw:=h.fw.AF fun a ha=>GJ _ ((mem _).2 (.inr (.inr (.inr (.inl (Ch.2 ⟨a,ha,rfl⟩)))))) fun hm=>sep.BC _ hm (Ch.2 ⟨a,ha,rfl⟩)
 have ol':(j.om++[p]).length=(t.ob++[o]).length:=by rw[List.length_append,List.length_append,h.ol]; rfl
 have inn':∀ (y:Nat) (hy:y<(t.ob++[o]).length) (hy':y<(j.om++[p]).length),Ff μ1 (j.om++[p])[y].1 (t.ob++[o])[y].refs∧Ff μ1 (j.om++[p])[y].2 (t.ob++[o])[y].data:=fun y hy hy'=>by
  by_cases q:y<t.ob.length
  ·have q':y<j.om.length:=by rw[h.ol]; exact q
   rw[List.getElem_append_left q,List.getElem_append_left q']
   exact ⟨(h.inn y q q').1.AF fun b hb=>GJ _ (j.Kr q' (.inl hb)) fun hm=>sep.BD _ hm (Kr q' (.inl hb)),(h.inn y q q').2.AF fun b hb=>GJ _ (j.Kr q' (.inr hb)) fun hm=>sep.BD _ hm (Kr q' (.inr hb))⟩
  ·have e:y=t.ob.length:=by rw[List.length_append,List.length_singleton] at hy; omega
   subst e
   rw[List.getElem_append_right (Nat.le_refl _),List.getElem_append_right (by rw[h.ol]; exact Nat.le_refl _)]
   simp only[Nat.sub_self,h.ol,List.getElem_cons_zero]
   exact ⟨h1.AF fun b hb=>NX b (.inl hb),h2.AF fun b hb=>NX b (.inr hb)⟩
 have lt':∀ q ∈ ({ j with os:=s',om:=j.om++[p] }:RI).l,q<μ1.length:=fun q hq=>by
  rcases RI.Aap.1 hq with hq' | hq' | hq' | hq' | hq'
  ·exact Nat.lt_of_lt_of_le (lt q ((mem q).2 (.inl hq'))) m0.len
  ·exact Nat.lt_of_lt_of_le (lt q ((mem q).2 (.inr (.inl hq')))) m0.len
  ·obtain ⟨a,ha,rfl⟩:=Ch.1 hq'; exact hs1.lt a ha
  ·exact Nat.lt_of_lt_of_le (lt q ((mem q).2 (.inr (.inr (.inr (.inl hq')))))) m0.len
  ·rcases (Yr _ _ _).1 hq' with hq' | hq'
   ·exact Nat.lt_of_lt_of_le (lt q ((mem q).2 (.inr (.inr (.inr (.inr hq')))))) m0.len
   ·exact Nat.lt_of_lt_of_le (hp q hq').1 m0.len
 refine ⟨s',μ1,_,e1',by simp only[Kx,cell]; rfl,Kz.vp (i:={ j with os:=s',om:=j.om++[p] }) (t:={ t with ob:=t.ob++[o] }) bl' ob' fw' ol' inn' sep' lt',by rw[List.length_set]; exact m0.len,fun q hq hn'=>?_,fun q hq=>?_⟩
 ·rw[List.getElem?_set_ne (fun e:j.hb=q=>hn' (by rw[← e]; exact j.Pa))]
  exact m0.same q hq fun hm=>hn' ((mem q).2 (.inr (.inr (.inl hm))))
 ·rcases RI.Aap.1 hq with hq' | hq' | hq' | hq' | hq'
  ·exact .inl ((mem q).2 (.inl hq'))
  ·exact .inl ((mem q).2 (.inr (.inl hq')))
  ·exact (new q hq').elim (fun h'=>.inl ((mem q).2 (.inr (.inr (.inl h'))))) fun h'=>.inr (.inl h')
  ·exact .inl ((mem q).2 (.inr (.inr (.inr (.inl hq')))))
  ·rcases (Yr _ _ _).1 hq' with hq' | hq'
   ·exact .inl ((mem q).2 (.inr (.inr (.inr (.inr hq')))))
   ·exact .inr (.inr hq')
theorem Afy (m:HM) {b:Nat} (hb:b<m.bls.length):(CC m (b:Int),Re m (b:Int))=m.bls.getD b (0,0):=by
 unfold CC Re
 rw[if_pos (by omega),if_pos (by omega),Int.toNat_natCast]
theorem nv (k:Nat) (hnt:m.bls.length≤64) (h3 lo:Nat):∀ (n x f:Nat) (μ:Aa) (j:RI),An μ i m→Kz μ j ⟨m.bls.take x,[],[],m.births⟩→j.hb=h3→(∀ q ∈ j.l,lo≤q)→(∀ q ∈ i.l,q<lo)→lo≤μ.length→x+n=m.bls.length→n<f →
  ∃ μ' j',IP (k+3) f (AV i) h3 (x:Int) μ=some (.exit 0,[],μ')∧Kz μ' j' ⟨m.bls,[],[],m.births⟩∧j'.hb=h3∧(∀ q ∈ j'.l,lo≤q)∧μ.length≤μ'.length ∧ ∀ q,q<lo→μ'[q]?=μ[q]?
 | n,x,0,μ,j,h,hr,hj,hl,hi,hm,hx,hf=>by omega
 | 0,x,f+1,μ,j,h,hr,hj,hl,hi,hm,hx,hf=>by
   have eB:Av (k+3) (AV i) μ=_:=Pn (k+1) h
   rw[Vl,Ok]
   simp only[sw,Ad,Af,Ae,eB,Option.bind_some,Aj,decide_eq_false (show ¬ (x:Int)<((m.bls.length:Nat):Int) by omega),cond_false]
   rw[List.take_of_length_le (by omega)] at hr
   exact ⟨μ,j,rfl,hr,hj,hl,Nat.le_refl _,fun _ _=>rfl⟩
 | n+1,x,f+1,μ,j,h,hr,hj,hl,hi,hm,hx,hf=>by
   have w1:Ce ((x:Int)+1)=((x+1:Nat):Int):=Ak (by unfold AU; omega)
   have eB:Av (k+3) (AV i) μ=_:=Pn (k+1) h
   have eS:AY (k+3) (AV i) (x:Int) μ=_:=mK k h (x:Int)
   have eP:BO (k+3) (AV i) (x:Int) μ=_:=Afh k h (x:Int)
   have htl:(m.bls.take x).length=x:=by rw[List.length_take]; omega
   have htk:m.bls.take (x+1)=m.bls.take x++[(CC m (x:Int),Re m (x:Int))]:=by
    rw[Afy m (by omega),List.take_add_one,List.getElem?_eq_getElem (by omega),List.getD_eq_getElem?_getD,List.getElem?_eq_getElem (by omega)]; rfl
   obtain ⟨s',μ1,μ2,e1,e2,hr2,m2⟩:=hr.Aiv (CC m (x:Int),Re m (x:Int)) (by show (m.bls.take x).length≤5000; omega) Am
   have hr2:Kz μ2 { j with bs:=s' } ⟨m.bls.take (x+1),[],[],m.births⟩:=by rw[htk]; exact hr2
   have d0:Hr μ h3 0=some (j.bs.1,x,x):=by
    have:=hr.Kw
    rw[← hj]
    show Hr μ j.hb 0=_
    rw[this]
    show some (j.bs.1,(m.bls.take x).length,(m.bls.take x).length)=_
    rw[htl]
   have low:∀ q,q<lo→μ2[q]?=μ[q]?:=fun q hq=>m2.same q (by omega) fun hm'=>absurd (hl q hm') (by omega)
   obtain ⟨μ',j',e3,r3,b3,l3,n3,q3⟩:=nv k hnt h3 lo n (x+1) f μ2 { j with bs:=s' } (h.AF fun q hq=>low q (hi q hq)) hr2 hj (fun q hq=>(m2.new q hq).elim (hl q) fun h'=>by omega) hi (by have:=m2.len; omega) (by omega) (by omega)
   refine ⟨μ',j', ?_,r3,b3,l3,Nat.le_trans m2.len n3,fun q hq=>(q3 q hq).trans (low q hq)⟩
   rw[Vl,Ok]
   have e1':BH P Am (j.bs.1,x,x) (some ⟨μ.length,0,none⟩,1,1) (μ++[A6.cells [.int .i64 (CC m (x:Int)),.int .i64 (Re m (x:Int))] Am true])=some (s',μ1):=by
    have e1:BH P Am (j.bs.1,(m.bls.take x).length,(m.bls.take x).length) (some ⟨μ.length,0,none⟩,1,1) (μ++[A6.cells [.int .i64 (CC m (x:Int)),.int .i64 (Re m (x:Int))] Am true])=some (s',μ1):=e1
    rw[htl] at e1; exact e1
   have e2':Kx μ1 h3 0 (.slice s'.1 s'.2.1 s'.2.2)=some μ2:=by rw[← hj]; exact e2
   simp only[sw,Ad,Af,Ae,eB,Option.bind_some,Aj,decide_eq_true (show (x:Int)<((m.bls.length:Nat):Int) by omega),cond_true,Nat.zero_add,d0,eS,eP,AM,e1',e2',w1,e3]
end Go.Proofs.YtphkfdnecpacmaaGreat
end
