/- The stable sort of gaps; the policy best.; The policy lines; Alloc of any policy.; The document's allocator: Free, place, bump, over. -/
import Derived.Test.YtlaplcglpnlieaaGreatP22
import Derived.Test.YtlaplcglpnlieaaGreatP20
set_option linter.unusedVariables false
set_option linter.unusedSimpArgs false
set_option linter.unusedSectionVars false
section
namespace Go.Proofs.YtlaplcglpnlieaaGreat
open Go Go.AX
noncomputable local instance zS:Bb:=Az
local instance yU:Kn:=⟨true⟩
variable {σ:Aa} {b:Nat} {R:List (Nat × Nat)}
def Cut (R:List (Nat × Nat)) (n p:Nat):Prop:=∀ x y,x<p→p≤y→y<n→(gd R x).1<(gd R y).1
theorem df.rep {R':List (Nat × Nat)} {lo hi:Nat} (h:df R R' lo hi) (x:Nat):∃ y,gd R' x=gd R y∧((lo≤x∧x<hi∧lo≤y∧y<hi)∨((x<lo∨hi≤x)∧y=x)):=by
 by_cases q:lo≤x∧x<hi
 ·obtain ⟨y,y1,y2,hy⟩:=(h.set (gd R' x)).1 ⟨x,q.1,q.2,rfl⟩
  exact ⟨y,hy.symm,.inl ⟨q.1,q.2,y1,y2⟩⟩
 ·exact ⟨x,h.out x (by omega),.inr ⟨by omega,rfl⟩⟩
theorem Cut.of {R':List (Nat × Nat)} {n p lo hi:Nat} (h:Cut R n p) (d:df R R' lo hi) (hp:p≤lo∨hi≤p) (hn:hi≤n):Cut R' n p:=by
 intro x y h1 h2 h3
 obtain ⟨x',e1,hx⟩:=d.rep x
 obtain ⟨y',e2,hy⟩:=d.rep y
 rw[e1,e2]
 exact h x' y' (by omega) (by omega) (by omega)
theorem df.whole {R':List (Nat × Nat)} {lo hi n:Nat} (d:df R R' lo hi) (hn:hi≤n):Qc R R' 0 n:=d.set.wide d.out (Nat.zero_le _) hn
structure aM (R:List (Nat × Nat)) (n c:Nat):Prop where
 srt:∀ p,c∣p→UO R p (min n (p+c))
 cut:∀ p,c∣p→Cut R n p
theorem OI {c p q:Nat} (hp:c∣p) (hq:c∣q) (h:p<q):p+c≤q:=by
 obtain ⟨u,rfl⟩:=hp
 obtain ⟨v,rfl⟩:=hq
 have:u<v:=by
  rcases Nat.lt_or_ge u v with h' | h'
  ·exact h'
  ·have:=Nat.mul_le_mul_left c h'; omega
 have:=Nat.mul_le_mul_left c (show u+1≤v from this)
 rw[Nat.mul_add,Nat.mul_one] at this
 exact this
theorem mW (k:Nat) (hk:5000≤k) (hln:R.length≤3000):∀ (f0 a f:Nat) (σ:Aa) (R':List (Nat × Nat)),R'.length=R.length→Ho σ b R'→gZ R'→20∣a→a≤R.length→(∀ p,20∣p→p<a→UO R' p (p+20))→(∀ p,20∣p→p≤a→Cut R' R.length p)→xq R' a R.length→R.length<a+f0→f0≤f →
  ∃ (σ':Aa) (R'':List (Nat × Nat)) (r:Nat),Bf (k+2) f (some ⟨b,0,none⟩) R.length R.length ((R.length:Nat):Int) Sd (a:Int) ((a+20:Nat):Int) σ=some (.exit 0,[.int .i64 (r:Int)],σ')∧Ho σ' b R''∧R''.length=R.length∧gZ R''∧Qc R' R'' 0 R.length∧20∣r∧r≤R.length∧R.length<r+20∧(∀ p,20∣p→p<r→UO R'' p (p+20))∧(∀ p,20∣p→p≤r→Cut R'' R.length p)∧xq R'' r R.length∧FK b σ σ'
 | f0,a,0,σ,R',hl,h,hS,hd,ha,j1,j2,j3,hf0,hf=>by omega
 | f0,a,f+1,σ,R',hl,h,hS,hd,ha,j1,j2,j3,hf0,hf=>by
   rw[ER,DR]
   by_cases q:a+20≤R.length
   ·obtain ⟨σ1,R1,e1,g1,d1,o1⟩:=sP k hk (a:=a) (c:=a+20) hln (by omega) q σ R' hl h hS (fun x y a1 a2 a3=>j3 x y a1 a2 (by omega))
    have w1:Ae (((a+20:Nat):Int)+20)=((a+20+20:Nat):Int):=Ad (by unfold AV; omega)
    have cutB:Cut R1 R.length (a+20):=fun x y x1 y1 y2=>by
     obtain ⟨x',u1,hx⟩:=d1.rep x
     rw[u1,d1.out y (by omega)]
     by_cases q2:x'<a
     ·exact j2 a hd (Nat.le_refl _) x' y q2 (by omega) y2
     ·exact j3 x' y (by omega) (by omega) y2
    obtain ⟨σ2,R2,r,e2,g2,l2,S2,s2,t1,t2,t3,t4,t5,t6,o2⟩:=mW k hk hln (f0-1) (a+20) f σ1 R1 (d1.len.trans hl) g1 (hS.of d1.set d1.out) (by omega) q (fun p p1 p2=>by
     by_cases q2:p<a
     ·exact (j1 p p1 q2).Cx d1.out (.inl (by omega))
     ·rw[show p=a from by omega]; exact d1.srt) (fun p p1 p2=>by
     by_cases q2:p≤a
     ·exact (j2 p p1 q2).of d1 (.inl q2) q
     ·rw[show p=a+20 from by omega]; exact cutB) (fun x y a1 a2 a3=>by rw[d1.out x (by omega),d1.out y (by omega)]; exact j3 x y (by omega) a2 a3) (by omega) (by omega)
    refine ⟨σ2,R2,r, ?_,g2,l2,S2,(d1.whole q).trans s2,t1,t2,t3,t4,t5,t6,o1.trans o2⟩
    simp only[decide_eq_true (show ((a+20:Nat):Int)≤((R.length:Nat):Int) by omega),cond_true,e1,Option.bind_some,KE,w1,e2]
   ·refine ⟨σ,R',a, ?_,h,hl,hS,fun _=>Iff.rfl,hd,ha,by omega,j1,j2,j3,FK.refl _⟩
    simp only[decide_eq_false (show ¬ ((a+20:Nat):Int)≤((R.length:Nat):Int) by omega),cond_false]
theorem mY (k:Nat) (hk:30000≤k) (hln:R.length≤3000) {c:Nat} (hc:1≤c) (hc2:c≤6000):∀ (f0 a f:Nat) (σ:Aa) (R':List (Nat × Nat)),R'.length=R.length→Ho σ b R'→gZ R'→2*c∣a→a≤R.length→(∀ p,2*c∣p→p<a→UO R' p (p+2*c))→(∀ p,c∣p→a≤p→UO R' p (min R.length (p+c)))→(∀ p,2*c∣p→p≤a→Cut R' R.length p)→(∀ p,c∣p→a≤p→Cut R' R.length p)→R.length<a+f0→f0≤f →
  ∃ (σ':Aa) (R'':List (Nat × Nat)) (r:Nat),Bv k f (some ⟨b,0,none⟩) R.length R.length ((R.length:Nat):Int) Sd (c:Int) (a:Int) ((a+2*c:Nat):Int) σ=some (.exit 4,[.int .i64 (r:Int)],σ')∧Ho σ' b R''∧R''.length=R.length∧gZ R''∧Qc R' R'' 0 R.length∧2*c∣r∧r≤R.length∧R.length<r+2*c∧(∀ p,2*c∣p→p<r→UO R'' p (p+2*c))∧(∀ p,c∣p→r≤p→UO R'' p (min R.length (p+c)))∧(∀ p,2*c∣p→p≤r→Cut R'' R.length p)∧(∀ p,c∣p→r≤p→Cut R'' R.length p)∧FK b σ σ'
 | f0,a,0,σ,R',hl,h,hS,hd,ha,j1,j2,j3,j4,hf0,hf=>by omega
 | f0,a,f+1,σ,R',hl,h,hS,hd,ha,j1,j2,j3,j4,hf0,hf=>by
   rw[H7,FF]
   have hda:c∣a:=Nat.dvd_trans (Nat.dvd_mul_left c 2) hd
   by_cases q:a+2*c≤R.length
   ·have hdm:c∣a+c:=Nat.dvd_add hda (Nat.dvd_refl c)
    have hdb:2*c∣a+2*c:=Nat.dvd_add hd (Nat.dvd_refl _)
    have sA:=j2 a hda (Nat.le_refl _)
    have sB:=j2 (a+c) hdm (by omega)
    rw[show min R.length (a+c)=a+c from by omega] at sA
    rw[show min R.length (a+c+c)=a+2*c from by omega] at sB
    obtain ⟨σ1,R1,e1,g1,d1,o1⟩:=ag hln (2*c) k a (a+c) (a+2*c) σ R' (by omega) (by omega) (by omega) (by omega) q hl h hS sA sB (fun x y x1 x2 y1 y2=>j4 (a+c) hdm (by omega) x y x2 y1 (by omega))
    have w1:Ae ((a:Int)+(c:Int))=((a+c:Nat):Int):=Ad (by unfold AV; omega)
    have w2:Ae ((2:Int)*(c:Int))=((2*c:Nat):Int):=Ad (by unfold AV; omega)
    have w3:Ae (((a+2*c:Nat):Int)+((2*c:Nat):Int))=((a+2*c+2*c:Nat):Int):=Ad (by unfold AV; omega)
    obtain ⟨σ2,R2,r,e2,g2,l2,S2,s2,t1,t2,t3,t4,t5,t6,t7,o2⟩:=mY k hk hln hc hc2 (f0-1) (a+2*c) f σ1 R1 (d1.len.trans hl) g1 (hS.of d1.set d1.out) hdb q (fun p p1 p2=>by
     by_cases q2:p<a
     ·exact (j1 p p1 q2).Cx d1.out (.inl (OI p1 hd q2))
     ·have:p=a:=by
       rcases Nat.eq_or_lt_of_le (Nat.le_of_not_lt q2) with e | e
       ·exact e.symm
       ·have:=OI hd p1 e; omega
      rw[this]; exact d1.srt) (fun p p1 p2=>(j2 p p1 (by omega)).Cx d1.out (.inr p2)) (fun p p1 p2=>by
     by_cases q2:p≤a
     ·exact (j3 p p1 q2).of d1 (.inl q2) q
     ·have:=OI hd p1 (by omega)
      rw[show p=a+2*c from by omega]
      exact (j4 (a+2*c) (Nat.dvd_add hda (Nat.dvd_mul_left c 2)) (by omega)).of d1 (.inr (Nat.le_refl _)) q) (fun p p1 p2=>(j4 p p1 (by omega)).of d1 (.inr p2) q) (by omega) (by omega)
    refine ⟨σ2,R2,r, ?_,g2,l2,S2,(d1.whole q).trans s2,t1,t2,t3,t4,t5,t6,t7,o1.trans o2⟩
    simp only[decide_eq_true (show ((a+2*c:Nat):Int)≤((R.length:Nat):Int) by omega),cond_true,w1,e1,Option.bind_some,KE,w2,w3,e2]
   ·refine ⟨σ,R',a, ?_,h,hl,hS,fun _=>Iff.rfl,hd,ha,by omega,j1,j2,j3,j4,FK.refl _⟩
    simp only[decide_eq_false (show ¬ ((a+2*c:Nat):Int)≤((R.length:Nat):Int) by omega),cond_false]
theorem mX (k:Nat) (hk:30000≤k) (hln:R.length≤3000):∀ (f0 c f:Nat) (σ:Aa) (R':List (Nat × Nat)),R'.length=R.length→Ho σ b R'→gZ R'→1≤c→c≤6000→aM R' R.length c→R.length≤c+f0→f0<f →
  ∃ (σ':Aa) (R'':List (Nat × Nat)),Bg k f (some ⟨b,0,none⟩) R.length R.length ((R.length:Nat):Int) Sd (c:Int) σ=some (.exit 2,[],σ')∧Ho σ' b R''∧R''.length=R.length∧Qc R' R'' 0 R.length∧UO R'' 0 R.length∧FK b σ σ'
 | f0,c,0,σ,R',hl,h,hS,hc,hc2,hB,hf0,hf=>by omega
 | f0,c,f+1,σ,R',hl,h,hS,hc,hc2,hB,hf0,hf=>by
   rw[ES,DS]
   by_cases q:c<R.length
   ·have w2:Ae ((2:Int)*(c:Int))=((0+2*c:Nat):Int):=by rw[Ad (by unfold AV; omega)]; omega
    obtain ⟨σ1,R1,r,e1,g1,l1,S1,s1,t1,t2,t3,t4,t5,t6,t7,o1⟩:=mY k hk hln hc hc2 (R.length+1) 0 k σ R' hl h hS (Nat.dvd_zero _) (by omega) (fun p _ p2=>by omega) (fun p p1 _=>hB.srt p p1) (fun p p1 p2=>by
     rw[show p=0 from by omega]; exact hB.cut 0 (Nat.dvd_zero _)) (fun p p1 _=>hB.cut p p1) (by omega) (by omega)
    rw[show ((0:Nat):Int)=0 from rfl] at e1
    have hdr:c∣r:=Nat.dvd_trans (Nat.dvd_mul_left c 2) t1
    have w3:Ae ((r:Int)+(c:Int))=((r+c:Nat):Int):=Ad (by unfold AV; omega)
    obtain ⟨σ2,R2,e2,g2,d2,o2⟩:∃ σ2 R2,((bif decide (((r+c:Nat):Int)<((R.length:Nat):Int)) then ((A9 k (some ⟨b,0,none⟩,R.length,R.length) (r:Int) ((r+c:Nat):Int) ((R.length:Nat):Int) Sd σ1).bind fun r8=>W9 r8.1 (some (Br.normal,[],r8.2))) else (some (Br.normal,[],σ1)):Option Ax))=some (.normal,[],σ2)∧Ho σ2 b R2∧df R1 R2 r R.length∧FK b σ1 σ2:=by
     have sA:=t5 r hdr (Nat.le_refl _)
     by_cases q2:r+c<R.length
     ·have hdm:c∣r+c:=Nat.dvd_add hdr (Nat.dvd_refl c)
      have sB:=t5 (r+c) hdm (by omega)
      rw[show min R.length (r+c)=r+c from by omega] at sA
      rw[show min R.length (r+c+c)=R.length from by omega] at sB
      obtain ⟨σ2,R2,e2,g2,d2,o2⟩:=ag hln R.length k r (r+c) R.length σ1 R1 (by omega) (by omega) (by omega) q2 (Nat.le_refl _) l1 g1 S1 sA sB (fun x y x1 x2 y1 y2=>t7 (r+c) hdm (by omega) x y x2 y1 y2)
      refine ⟨σ2,R2, ?_,g2,d2,o2⟩
      simp only[decide_eq_true (show ((r+c:Nat):Int)<((R.length:Nat):Int) by omega),cond_true,e2,Option.bind_some,KE]
     ·rw[show min R.length (r+c)=R.length from by omega] at sA
      refine ⟨σ1,R1, ?_,g1,⟨rfl,sA,fun _=>Iff.rfl,fun _ _=>rfl⟩,FK.refl _⟩
      simp only[decide_eq_false (show ¬ ((r+c:Nat):Int)<((R.length:Nat):Int) by omega),cond_false]
    have B2:aM R2 R.length (2*c):=⟨fun p hp=>by
     rcases Nat.lt_trichotomy p r with h1 | h1 | h1
     ·have:=OI hp t1 h1
      rw[show min R.length (p+2*c)=p+2*c from by omega]
      exact (t4 p hp h1).Cx d2.out (.inl this)
     ·rw[h1,show min R.length (r+2*c)=R.length from by omega]; exact d2.srt
     ·have:=OI t1 hp h1
      intro x y a1 a2 a3; omega,fun p hp=>by
     by_cases h1:p≤r
     ·exact (t6 p hp h1).of d2 (.inl h1) (Nat.le_refl _)
     ·have:=OI t1 hp (by omega)
      intro x y a1 a2 a3; omega⟩
    have w4:Ae ((c:Int)*2)=((2*c:Nat):Int):=by rw[Ad (by unfold AV; omega)]; omega
    obtain ⟨σ3,R3,e3,g3,l3,s3,t,o3⟩:=mX k hk hln (f0-1) (2*c) f σ2 R2 (d2.len.trans l1) g2 (S1.of d2.set d2.out) (by omega) (by omega) B2 (by omega) (by omega)
    refine ⟨σ3,R3, ?_,g3,l3,(s1.trans (d2.whole (Nat.le_refl _))).trans s3,t,(o1.trans o2).trans o3⟩
    simp only[decide_eq_true (show (c:Int)<((R.length:Nat):Int) by omega),cond_true,w2,e1,Option.bind_some,if_true,DQ,w3,e2,w4,e3]
   ·refine ⟨σ,R', ?_,h,hl,fun _=>Iff.rfl, ?_,FK.refl _⟩
    ·simp only[decide_eq_false (show ¬ (c:Int)<((R.length:Nat):Int) by omega),cond_false]
    ·have:=hB.srt 0 (Nat.dvd_zero _)
     rw[show min R.length (0+c)=R.length from by omega] at this
     exact this
theorem uV (k:Nat) (hk:40000≤k) (hln:R.length≤3000) (h:Ho σ b R) (hS:gZ R) (hI:xq R 0 R.length):
  ∃ (σ':Aa) (R':List (Nat × Nat)),Bs (k+2) (some ⟨b,0,none⟩,R.length,R.length) Sd σ=some (.tuple #[],σ')∧Ho σ' b R'∧R'.length=R.length∧Qc R R' 0 R.length∧UO R' 0 R.length∧FK b σ σ':=by
 obtain ⟨k,rfl⟩:∃ k',k=k'+2:=⟨k-2,by omega⟩
 obtain ⟨σ1,R1,r,e1,g1,l1,S1,s1,t1,t2,t3,t4,t5,t6,o1⟩:=mW k (by omega) hln (R.length+1) 0 (k+2) σ R rfl h hS (Nat.dvd_zero _) (by omega) (fun p _ p2=>by omega) (fun p _ p2 x y x1=>by omega) hI (by omega) (by omega)
 obtain ⟨σ2,R2,e2,g2,d2,o2⟩:=sP k (by omega) (a:=r) (c:=R.length) hln t2 (Nat.le_refl _) σ1 R1 l1 g1 S1 t6
 have B2:aM R2 R.length 20:=⟨fun p hp=>by
  rcases Nat.lt_trichotomy p r with h1 | h1 | h1
  ·have:=OI hp t1 h1
   rw[show min R.length (p+20)=p+20 from by omega]
   exact (t4 p hp h1).Cx d2.out (.inl this)
  ·rw[h1,show min R.length (r+20)=R.length from by omega]; exact d2.srt
  ·have:=OI t1 hp h1
   intro x y a1 a2 a3; omega,fun p hp=>by
  by_cases h1:p≤r
  ·exact (t5 p hp h1).of d2 (.inl h1) (Nat.le_refl _)
  ·have:=OI t1 hp (by omega)
   intro x y a1 a2 a3; omega⟩
 obtain ⟨σ3,R3,e3,g3,l3,s3,t,o3⟩:=mX (k+2) (by omega) hln R.length 20 (k+2) σ2 R2 (d2.len.trans l1) g2 (S1.of d2.set d2.out) (by decide) (by decide) B2 (by omega) (by omega)
 refine ⟨σ3,R3, ?_,g3,l3,(s1.trans (d2.whole (Nat.le_refl _))).trans s3,t,(o1.trans o2).trans o3⟩
 rw[show ((0:Nat):Int)=0 from rfl,show ((0+20:Nat):Int)=20 from rfl] at e1
 rw[show ((20:Nat):Int)=20 from rfl] at e3
 rw[Fs,E6,FG,EC]
 simp only[e1,Option.bind_some,if_true,DQ,e2,KE,e3]
theorem tI (k:Nat) (hk:10≤k) (σ:Aa):Bs (k+3) (none,0,0) Sd σ=some (.tuple #[],σ):=by
 obtain ⟨k,rfl⟩:∃ k',k=k'+2:=⟨k-2,by omega⟩
 have e1:Bf (k+3) (k+3) none 0 0 ((0:Nat):Int) Sd 0 20 σ=some (.exit 0,[.int .i64 0],σ):=by
  rw[ER,DR]
  simp only[decide_eq_false (show ¬ (20:Int)≤((0:Nat):Int) by decide),cond_false]
 have e2:AK (k+3) (none,0,0) 0 ((0:Nat):Int) Sd σ=some (.tuple #[],σ):=by
  rw[Es,Dg,D4,CE]
  simp only[show Ae (0+1)=1 from rfl,decide_eq_false (show ¬ (1:Int)<((0:Nat):Int) by decide),cond_false,Option.bind_some,if_true]
 have e3:Bg (k+3) (k+3) none 0 0 ((0:Nat):Int) Sd 20 σ=some (.exit 2,[],σ):=by
  rw[ES,DS]
  simp only[decide_eq_false (show ¬ (20:Int)<((0:Nat):Int) by decide),cond_false]
 rw[Fs,E6,FG,EC]
 simp only[e1,Option.bind_some,if_true,DQ,e2,KE,e3]
def MR:List (Nat × Nat)→Option (Nat × Nat)
 | []=>none
 | g::l=>match MR l with
   | none=>some g
   | some h=>if h.2<g.2 then some h else some g
def rS (l:List (Nat × Nat)):Prop:=l.Pairwise fun g h=>g.1<h.1
theorem iC {l:List (Nat × Nat)} (h:MR l=none):l=[]:=by
 cases l with
 | nil=>rfl
 | cons g l=>
   unfold MR at h
   split at h
   ·cases h
   ·split at h <;> cases h
theorem eI:∀ {l:List (Nat × Nat)},rS l → ∀ {e},MR l=some e→e ∈ l ∧ ∀ g ∈ l,g=e∨aa e g
 | [],_,e,h=>by cases h
 | g::l,hi,e,h=>by
   have hp:=List.pairwise_cons.1 hi
   unfold MR at h
   cases hb:MR l with
   | none=>
     rw[hb] at h; cases h
     have:=iC hb; subst this
     exact ⟨by simp,fun g' hg=>.inl (by simpa using hg)⟩
   | some x=>
     rw[hb] at h
     obtain ⟨hx1,hx2⟩:=eI hp.2 hb
     dsimp only at h
     split at h
     ·rename_i q
      cases h
      refine ⟨List.mem_cons_of_mem _ hx1,fun g' hg=>?_⟩
      rcases List.mem_cons.1 hg with rfl | hg
      ·exact .inr (.inl q)
      ·exact hx2 g' hg
     ·rename_i q
      cases h
      refine ⟨List.mem_cons_self,fun g' hg=>?_⟩
      rcases List.mem_cons.1 hg with rfl | hg
      ·exact .inl rfl
      ·have h1:=hp.1 g' hg
       have h2:g.2≤g'.2:=by
        rcases hx2 g' hg with rfl | h3
        ·omega
        ·unfold aa at h3; omega
       exact .inr (by unfold aa; omega)
theorem qk {R R':List (Nat × Nat)} (hl:R'.length=R.length) (hI:rS R) (hs:Qc R R' 0 R.length) (ht:UO R' 0 R.length):R'.head?=MR R:=by
 cases hb:MR R with
 | none=>
   have:=iC hb
   subst this
   have:R'=[]:=List.length_eq_zero_iff.1 (by simpa using hl)
   rw[this]; rfl
 | some e=>
   obtain ⟨h1,h2⟩:=eI hI hb
   have hp:0<R.length:=List.length_pos_of_mem h1
   have hm:∀ x,x<R.length→gd R x ∈ R:=fun x hx=>by
    unfold gd
    rw[List.getD_eq_getElem?_getD,List.getElem?_eq_getElem hx]
    exact List.getElem_mem _
   obtain ⟨i,hi,he⟩:=List.mem_iff_getElem.1 h1
   have hge:gd R i=e:=by
    unfold gd
    rw[List.getD_eq_getElem?_getD,List.getElem?_eq_getElem hi]; exact he
   obtain ⟨y,y1,y2,hy⟩:=(hs e).2 ⟨i,by omega,hi,hge⟩
   have hh:R'.head?=some (gd R' 0):=by
    cases R' with
    | nil=>simp at hl; omega
    | cons g l=>rfl
   rw[hh]
   congr 1
   by_cases q:y=0
   ·rw[q] at hy; exact hy
   ·exfalso
    have l1:=ht 0 y (Nat.le_refl _) (by omega) y2
    rw[hy] at l1
    obtain ⟨z,z1,z2,hz⟩:=(hs (gd R' 0)).1 ⟨0,Nat.le_refl _,hp,rfl⟩
    rcases h2 (gd R z) (hm z z2) with h3 | h3
    ·rw[hz] at h3; rw[h3] at l1; unfold aa at l1; omega
    ·rw[hz] at h3; unfold aa at l1 h3; omega
theorem cY {m:HM} {a:AS} {l l':List (Nat × Nat)} (h:l.head?=l'.head?):C1 m a l=C1 m a l':=by
 cases l with
 | nil=>
   cases l' with
   | nil=>rfl
   | cons g l'=>simp at h
 | cons g l=>
   cases l' with
   | nil=>simp at h
   | cons g' l'=>simp at h; subst h; rfl
variable {i:CU} {m:HM} {ab:Nat} {a:AS}
theorem iV (hI:Inv m) {e:Nat}:∀ (L:List Nat) (p:Nat),L.Pairwise (·<·)→(∀ j ∈ L,Start m j∧p≤2*j∧2*j+sz m j≤e)→p≤e →
  (ET m L p).1.Pairwise (fun g h=>g.1+g.2≤h.1∧g.1<h.1)∧(∀ g ∈ (ET m L p).1,p≤g.1∧g.1+g.2≤(ET m L p).2∧0<g.2)∧p≤(ET m L p).2∧(ET m L p).2≤e
 | [],p,_,_,hp=>⟨.nil,fun g hg=>by simp[ET] at hg,Nat.le_refl _,hp⟩
 | j::L,p,hs,hL,hp=>by
   obtain ⟨s1,s2,s3⟩:=hL j (by simp)
   have pc:=List.pairwise_cons.1 hs
   obtain ⟨r1,r2,r3,r4⟩:=iV hI L (2*j+sz m j) pc.2 (fun j' hj'=>by
    obtain ⟨t1,_,t3⟩:=hL j' (by simp[hj'])
    exact ⟨t1,hI.apart j j' s1 t1 (pc.1 j' hj'),t3⟩) s3
   have z:=(hI.size s1).1
   have g1:∀ g ∈ Kh p (2*j),g=(p,2*j-p)∧p<2*j:=fun g hg=>by
    unfold Kh at hg
    split at hg
    ·simp at hg; exact ⟨hg,by assumption⟩
    ·simp at hg
   simp only[ET]
   refine ⟨List.pairwise_append.2 ⟨?_,r1,fun g hg h hh=>?_⟩,fun g hg=>?_,by omega,r4⟩
   ·unfold Kh; split
    ·exact List.pairwise_singleton _ _
    ·exact .nil
   ·obtain ⟨rfl,q⟩:=g1 g hg
    have:=(r2 h hh).1
    dsimp only; omega
   ·rcases List.mem_append.1 hg with h | h
    ·obtain ⟨rfl,q⟩:=g1 g h
     dsimp only; omega
    ·have:=r2 g h; omega
theorem bH (hI:Inv m) (hI2:Inv2 m) (hw:m.wds.length=64*m.bls.length) (n:Nat) (hn:n<m.bls.length):(H8 m (n:Int)).Pairwise (fun g h=>g.1<h.1) ∧ ∀ g ∈ H8 m (n:Int),64*n≤g.1∧g.1+g.2≤64*n+64∧0<g.2:=by
 unfold H8
 split
 ·rename_i hst
  have hst':(m.bls.getD n (0,0)).1=1:=by
   unfold Ij at hst
   rw[if_pos (by omega),Int.toNat_natCast] at hst; exact hst
  rw[Int.toNat_natCast]
  obtain ⟨r1,r2,r3,r4⟩:=iV hI (e:=64*n+64) (Cb m (32*n) 32) (64*n) ((List.pairwise_lt_range' (step:=1) (by decide)).filter _) (fun j hj=>by
   have hh:=KD.1 hj
   have hS:Start m j:=⟨by omega,hh.2.2⟩
   have:=(kc hI hI2 hst' hS hh.1 hh.2.1).2
   exact ⟨hS,by omega,by omega⟩) (by omega)
  have g1:∀ p q,∀ g ∈ Kh p q,g=(p,q-p)∧p<q:=fun p q g hg=>by
   unfold Kh at hg
   split at hg
   ·simp at hg; exact ⟨hg,by assumption⟩
   ·simp at hg
  unfold fy
  refine ⟨List.pairwise_append.2 ⟨r1.imp fun h=>h.2, ?_,fun g hg h hh=>?_⟩,fun g hg=>?_⟩
  ·unfold Kh; split
   ·exact List.pairwise_singleton _ _
   ·exact .nil
  ·obtain ⟨rfl,q⟩:=g1 _ _ h hh
   have:=r2 g hg
   dsimp only; omega
  ·rcases List.mem_append.1 hg with h | h
   ·have:=r2 g h; omega
   ·obtain ⟨rfl,q⟩:=g1 _ _ g h
    dsimp only; omega
 ·exact ⟨.nil,fun g hg=>by simp at hg⟩
theorem fC (hI:Inv m) (hI2:Inv2 m) (hw:m.wds.length=64*m.bls.length):∀ (L:List Nat),L.Pairwise (·<·)→(∀ b ∈ L,b<m.bls.length)→rS (Fv m L)
 | [],_,_=>.nil
 | b::L,hs,hL=>by
   have pc:=List.pairwise_cons.1 hs
   unfold Fv
   rw[List.flatMap_cons]
   refine List.pairwise_append.2 ⟨(bH hI hI2 hw b (hL b (by simp))).1,fC hI hI2 hw L pc.2 (fun b' hb'=>hL b' (by simp[hb'])),fun g hg h hh=>?_⟩
   have h1:=(bH hI hI2 hw b (hL b (by simp))).2 g hg
   obtain ⟨b',hb',hh'⟩:=List.mem_flatMap.1 hh
   have h2:=(bH hI hI2 hw b' (hL b' (by simp[hb']))).2 h hh'
   have:=pc.1 b' hb'
   omega
theorem eK (m:HM) (s:Int) (n:Nat):(B1 m s n).Pairwise (·<·):=List.Pairwise.filter _ List.pairwise_lt_range
theorem bj {w:Nat} {g g':Nat × Nat} (h:LH 0 w g=some g'):g'=g:=by
 unfold LH at h
 split at h
 ·cases h
  obtain ⟨x,y⟩:=g
  dsimp only
  congr 1 <;> omega
 ·cases h
theorem qE (hI:Inv m) (hI2:Inv2 m) (hw:m.wds.length=64*m.bls.length) (s:Int) (w:Nat):rS (CM m s 0 w):=by
 unfold CM rS
 refine List.pairwise_filterMap.2 ((fC hI hI2 hw _ (eK m s _) fun b hb=>(T1.1 hb).1).imp fun {g h} hgh g' hg' h' hh'=>?_)
 rw[bj hg',bj hh']; exact hgh
theorem qG (hl:m.bls.length≤64) (s:Int) (w:Nat):∀ g ∈ CM m s 0 w,g.1≤10000∧g.2≤10000:=by
 intro g hg
 unfold CM at hg
 obtain ⟨g0,h0,hc⟩:=List.mem_filterMap.1 hg
 rw[bj hc]
 unfold Fv at h0
 obtain ⟨b,_,hb⟩:=List.mem_flatMap.1 h0
 have:=ZP hl _ g0 hb
 omega
theorem qF (hl:m.bls.length≤64) (s:Int) (f w:Nat):(CM m s f w).length≤64*33:=by
 unfold CM
 refine Nat.le_trans (List.length_filterMap_le _ _) ?_
 unfold Fv
 have hb:=LF m s m.bls.length
 have aux:∀ L:List Nat,(L.flatMap fun b:Nat=>H8 m (b:Int)).length≤L.length*33:=by
  intro L
  induction L with
  | nil=>simp
  | cons b L ih=>
    have:=PD m (b:Int)
    rw[List.flatMap_cons,List.length_append,List.length_cons]; omega
 have:=aux (B1 m s m.bls.length)
 omega
def pv (m:HM) (a:AS) (w:Nat):PR:=C1 m a (MR (CM m a.s 0 w)).toList
theorem ia (k:Nat) (hk:50000≤k) (h:Ah σ i m) (hA:Cs σ ab i a) (hab:ab ∉ i.l) (ho:a.ok) (hI:Inv m) (hI2:Inv2 m) (h0:B0 m) {w:Nat} (hw:1≤w∧w≤1000):
  gY (DF (k+12) (Ct ab) (w:Int) σ) σ i ab (pv m a w):=by
 have hnt:=h.nt
 obtain ⟨τ,s,e1,h1,lo1⟩:=dG (k+3) (by omega) (h.app [.cells [] Nl true]) (hA.app _) hI h0 (fr:=0) (by decide) hw
 obtain ⟨μ,hμ⟩:∃ μ,σ++[AJ.cells [] Nl true]++τ=μ:=⟨_,rfl⟩
 rw[hμ] at e1 h1
 have H1:Ah μ i m:=hμ ▸ (h.app _).app _
 have A1:Cs μ ab i a:=hμ ▸ (hA.app _).app _
 have K1:C2 i ab σ μ:=hμ ▸ (C2.app _ _).trans (C2.app _ _)
 have hlen:=qF (m:=m) hnt a.s 0 w
 have hinc:=qE hI hI2 h.wl a.s w
 have hsml:=qG (m:=m) hnt a.s w
 obtain ⟨μ2,l2,e2,H2,A2,K2,h2,hh⟩:∃ μ2 l2,Bs (k+11) (s.1,s.2.1,s.2.2) Sd μ=some (.tuple #[],μ2)∧Ah μ2 i m∧Cs μ2 ab i a∧C2 i ab σ μ2∧BU Aj 2 μ2 s l2.length (Bh l2)∧l2.head?=MR (CM m a.s 0 w):=by
  generalize CM m a.s 0 w=R at *
  rcases h1 with ⟨z1,z2,rfl⟩ | ⟨b,rfl,_,z3,z4⟩
  ·have:R=[]:=List.length_eq_zero_iff.1 z1
   subst this
   exact ⟨μ,[],tI (k+8) (by omega) μ,H1,A1,K1,.inl ⟨rfl,rfl,rfl⟩,rfl⟩
  ·have lob:=lo1 _ rfl
   simp at lob
   have hb1:b ∉ i.l:=fun hm=>by have:=h.lt _ hm; omega
   have hb2:b≠ab:=by have:=hA.lt; omega
   obtain ⟨μ2,R2,e2,g2,l2,s2,t2,o2⟩:=uV (k+9) (by omega) (by omega) (show Ho μ b R from z4) (fun x=>by
    unfold gd
    rw[List.getD_eq_getElem?_getD]
    by_cases q:x<R.length
    ·rw[List.getElem?_eq_getElem q]; exact hsml _ (List.getElem_mem _)
    ·rw[List.getElem?_eq_none (by omega)]; decide) (fun x y x1 x2 x3=>by
    have:=List.pairwise_iff_getElem.1 hinc x y (by omega) x3 x2
    unfold gd
    rw[List.getD_eq_getElem?_getD,List.getD_eq_getElem?_getD,List.getElem?_eq_getElem x3,List.getElem?_eq_getElem (show x<R.length by omega)]
    exact this)
   refine ⟨μ2,R2,e2,H1.Cx fun j hj=>o2.same j (H1.lt j hj) fun e=>hb1 (by rw[← e]; exact hj),A1.Cx (o2.same _ A1.lt fun e=>hb2 e.symm),⟨Nat.le_trans K1.len o2.len,fun q hq q1 q2=>by
    rw[o2.same q (by have:=K1.len; omega) (by omega)]; exact K1.same q hq q1 q2⟩,.inr ⟨b,by rw[l2],Nat.zero_le _,N7 _,g2⟩,qk l2 hinc s2 t2⟩
 obtain ⟨σ2,e3,g3,a3,k3⟩:=gL (k+1) (by omega) H2 A2 hab ho h2
 have e1':AZ (k+11) (Ct ab) 0 (w:Int) (σ++[.cells [] Nl true])=_:=e1
 have e3':Bc (k+11) (Ct ab) (s.1,s.2.1,s.2.2) μ2=_:=e3
 have heq:C1 m a l2=pv m a w:=cY (by rw[hh]; cases MR (CM m a.s 0 w) <;> rfl)
 rw[← heq]
 refine ⟨σ2, ?_,g3,a3,K2.trans k3⟩
 rw[Pc,Nr]
 simp only[An,e1',Option.bind_some,Gp,e2,KE,e3',V0]
end Go.Proofs.YtlaplcglpnlieaaGreat
end
section
namespace Go.Proofs.YtlaplcglpnlieaaGreat
open Go Go.AX
noncomputable local instance zT:Bb:=Az
local instance yV:Kn:=⟨true⟩
variable {σ:Aa} {i:CU} {m:HM} {ab:Nat} {a:AS}
theorem Zw {ls:List Bool}:∀ {f x:Nat} {g:Nat × Nat},g ∈ YN ls f x→x≤g.1∧g.1<g.2∧g.2≤ls.length
 | 0,x,g,h=>by simp[YN] at h
 | f+1,x,g,h=>by
   unfold YN at h
   split at h
   ·rename_i hx
    rcases List.mem_append.1 h with h | h
    ·split at h
     ·rename_i q
      simp at h; subst h
      exact ⟨Nat.le_refl _,q,bW ls 8 x (by omega)⟩
     ·simp at h
    ·have:=Zw h
     exact ⟨by omega,this.2⟩
   ·simp at h
theorem fG {lim:Int}:∀ {L:List Nat} {b x n:Nat},Pp m lim L=some (b,x,n)→b ∈ L∧(x,n) ∈ YN (DO m (b:Int)) 9 0∧64*(b:Int)+8*(x:Int)≥lim
 | [],b,x,n,h=>by cases h
 | c::L,b,x,n,h=>by
   unfold Pp at h
   cases hb:U3 (DO m (c:Int)) c lim 9 0 with
   | none=>
     rw[hb] at h
     have:=fG h
     exact ⟨List.mem_cons_of_mem _ this.1,this.2⟩
   | some g=>
     rw[hb] at h
     cases h
     unfold U3 at hb
     have h1:=List.mem_of_find?_eq_some hb
     have h2:=List.find?_some hb
     exact ⟨List.mem_cons_self,h1,by simpa using h2⟩
theorem cE (hl:m.bls.length≤64):0≤(Od m a).1∧(Od m a).1≤9000∧0≤(Od m a).2.1∧(Od m a).2.1≤9000:=by
 unfold Od
 split
 ·rename_i g hg
  obtain ⟨b,x,n⟩:=g
  obtain ⟨h1,h2,_⟩:=fG hg
  have h3:=(T1.1 h1).1
  have h4:=Zw h2
  have h5:=SA m (b:Int)
  dsimp only at *
  omega
 ·unfold ba
  split
  ·rename_i b hb
   have:=KB hb
   dsimp only; omega
  ·dsimp only; omega
def JX (m:HM) (a:AS) (w:Int):PR:=
 if a.l-a.c≥w then ((a.c,true),m,a.put false (a.c+w) a.l)
 else if w>8 then Eu m a true w
 else if (Od m a).2.2=true then (((Od m a).1,true),ON m a,a.put false ((Od m a).1+w) (Od m a).2.1)
 else ((0,false),ON m a,a)
theorem fW (k:Nat) (hk:5000≤k) (h:Ah σ i m) (hA:Cs σ ab i a) (hab:ab ∉ i.l) (ho:a.ok) (hI:Inv m) (hI2:Inv2 m) (h0:B0 m) {w:Int} (hw:0≤w∧w≤1000):
  gY (Dq (k+12) (Ct ab) w σ) σ i ab (JX m a w):=by
 have hnt:=h.nt
 have h1:Ah (σ++[.cells [] Gh true]) i m:=h.app _
 have A1:Cs (σ++[.cells [] Gh true]) ab i a:=hA.app _
 have K1:C2 i ab σ (σ++[.cells [] Gh true]):=C2.app _ _
 have e1:DZ (k+11) (some ⟨ab,3,none⟩) w (σ++[.cells [] Gh true])=some (.bool (decide (a.l-a.c≥w)),σ++[.cells [] Gh true]):=sK (k+10) A1 ho false w
 have tk:∀ {μ:Aa} {a':AS},Cs μ ab i a'→a'.ok→D2 (k+11) (some ⟨ab,3,none⟩) w μ=some (.int .i64 a'.c,μ.set ab (.cells ((a'.put false (a'.c+w) a'.l).row i.hb) Ba true)):=fun hA ho=>kH (k+10) hA ho false hw
 rw[OB,M6]
 simp only[An,Option.bind_some,Nat.zero_add,e1,Ao]
 unfold JX
 by_cases q:a.l-a.c≥w
 ·rw[if_pos q]
  simp only[decide_eq_true q,cond_true,Option.bind_some,if_true,tk A1 ho,Am]
  exact ⟨_,rfl,h1.TU hab _,A1.put _,K1.trans (C2.set _ _)⟩
 rw[if_neg q]
 simp only[decide_eq_false q,cond_false]
 by_cases q2:w>8
 ·rw[if_pos q2]
  obtain ⟨σ2,e2,g2,a2,k2⟩:=iG (k+1) (by omega) h1 A1 hab ho true hw
  have e2':BF (k+11) (Ct ab) (some ⟨ab,5,none⟩) w (σ++[.cells [] Gh true])=_:=e2
  simp only[decide_eq_true q2,cond_true,e2',Option.bind_some,V0,show (Br.ret=Br.normal)=False from by simp,if_false,if_true,aK]
  exact ⟨σ2,rfl,g2,a2,K1.trans k2⟩
 rw[if_neg q2]
 obtain ⟨σ2,e2,g2,k2⟩:=u9 (k+1) (by omega) h1 A1 hab ho hI hI2 h0
 have e2':CW (k+11) (Ct ab) (σ++[.cells [] Gh true])=_:=e2
 have A2:=A1.Zm k2 hab
 have K2:=K1.trans (C2.of k2)
 have hr:=cE (m:=m) (a:=a) hnt
 simp only[decide_eq_false q2,cond_false,e2',Option.bind_some,cj,List.length_cons,List.length_nil,List.head?_cons,List.tail_cons,dD,Ao,uW,Nat.zero_add,Nat.reduceAdd,if_true]
 generalize Od m a=v at *
 cases hv:v.2.2 with
 | false=>
   simp only[Bool.not_false,cond_true,Option.bind_some,show (Br.ret=Br.normal)=False from by simp,if_false,if_true,aK,Bool.false_eq_true]
   exact ⟨_,rfl,g2.app _,A2.app _,K2.trans (C2.app _ _)⟩
 | true=>
   obtain ⟨l0,l1⟩:=kP σ2 EB v.1 v.2.1
   have A3:=A2.app [.cells [.int .i64 v.1,.int .i64 v.2.1] EB true]
   have st3:=A3.xy false v.1 v.2.1
   rw[show rL false=3 from rfl] at st3
   have A4:=A3.put (a.put false v.1 v.2.1)
   have ho4:(a.put false v.1 v.2.1).ok:=ho.put false (by omega) (by omega)
   simp only[Bool.not_true,cond_false,l0,l1,Option.bind_some,st3,if_true,tk A4 ho4,Am]
   exact ⟨_,rfl,((g2.app _).TU hab _).TU hab _,A4.put _,((K2.trans (C2.app _ _)).trans (C2.set _ _)).trans (C2.set _ _)⟩
def gi (m:HM) (a:AS) (w:Int):PR:=
 if w>32 then N5 m a w
 else if a.p=0 then C1 m a (CM m a.s 0 w.toNat)
 else if a.p=1 then pv m a w.toNat
 else if a.p=2 then cK m a w.toNat
 else if a.p=3 then Eu m a false w
 else JX m a w
def kY (m:HM) (a:AS) (r d c:Int):(Int × Int) × HM × AS:=Cj m a r d c (gi m a (words r d c))
theorem cd (h:Inv m) (h2:Inv2 m) (hl:m.bls.length≤64) (ho:a.ok) {l:List (Nat × Nat)} (hg:∀ g ∈ l,g.1≤10000):kS m a (C1 m a l):=by
 have hadr:=gJ (a:=a) hl hg
 unfold C1 at *
 split
 ·exact ⟨h,h2,rfl,rfl,hadr,rfl,rfl,ho,fun hh=>by cases hh⟩
 ·split
  ·rename_i b hb
   have:=KB hb
   obtain ⟨k1,k2,k3,k4⟩:=eE (b:=b) h h2 a.s
   exact ⟨k1,k2,k3,k4,by dsimp only; omega,rfl,rfl,ho,fun hh=>by cases hh⟩
  ·exact ku h h2 ho
theorem ui (h:Inv m) (h2:Inv2 m) (s:Int):Inv (WU m s)∧Inv2 (WU m s)∧(WU m s).births=m.births∧(WU m s).bls.length=m.bls.length:=by
 unfold WU
 split
 ·exact eE h h2 s
 ·exact ⟨h,h2,rfl,rfl⟩
theorem sM (h:Inv m) (h2:Inv2 m):Inv (ON m a)∧Inv2 (ON m a)∧(ON m a).births=m.births∧(ON m a).bls.length=m.bls.length:=by
 unfold ON
 split
 ·exact ⟨h,h2,rfl,rfl⟩
 ·exact ui h h2 _
theorem sN (h:(Od m a).2.2=false):ON m a=m:=by
 unfold Od ON at *
 cases q:Pp m a.l (B1 m a.s m.bls.length) with
 | some g=>rfl
 | none=>
   rw[q] at h
   unfold ba WU at *
   cases q2:Tv m with
   | some b=>rw[q2] at h; cases h
   | none=>rfl
theorem bc:∀ {l:List (Nat × Nat)} {e:Nat × Nat},MR l=some e→e ∈ l
 | [],e,h=>by cases h
 | g::l,e,h=>by
   unfold MR at h
   cases hb:MR l with
   | none=>rw[hb] at h; cases h; exact List.mem_cons_self
   | some x=>
     rw[hb] at h
     dsimp only at h
     split at h
     ·cases h; exact List.mem_cons_of_mem _ (bc hb)
     ·cases h; exact List.mem_cons_self
theorem iS (hl:m.bls.length≤64) {s:Int} {f w:Nat} (hw:1≤w):∀ g ∈ CM m s f w,g.1+w≤4096:=by
 intro g hg
 unfold CM at hg
 obtain ⟨g0,h0,hc⟩:=List.mem_filterMap.1 hg
 unfold Fv at h0
 obtain ⟨b,_,hb⟩:=List.mem_flatMap.1 h0
 have:=iT hl _ g0 hb
 unfold LH at hc
 split at hc
 ·cases hc; dsimp only; omega
 ·cases hc
theorem oQ (hl:m.bls.length≤64) {l:List (Nat × Nat)} {w:Nat} (hw:w≤1000) (hg:∀ g ∈ l,g.1+w≤4096):0≤(C1 m a l).1.1∧(C1 m a l).1.1+w≤6000:=by
 unfold C1
 split
 ·have:=hg _ (List.mem_cons_self); dsimp only; omega
 ·split
  ·rename_i b hb
   have:=KB hb
   dsimp only; omega
  ·dsimp only; omega
theorem tm (h:Inv m) (h2:Inv2 m) (hl:m.bls.length≤64) (ho:a.ok) {w:Int} (hw:1≤w∧w≤1000):kS m a (gi m a w):=by
 have hc:=ho.c0
 have hll:=ho.l0
 have hg0:=iS (m:=m) hl (s:=a.s) (f:=0) (w:=w.toNat) (by omega)
 have hgc:=iS (m:=m) hl (s:=a.s) (f:=a.c.toNat) (w:=w.toNat) (by omega)
 have nx:kS m a (cK m a w.toNat):=by
  have hga:∀ g ∈ CM m a.s a.c.toNat w.toNat++CM m a.s 0 w.toNat,g.1+w.toNat≤4096:=fun g hg=>by
   rcases List.mem_append.1 hg with hg | hg
   ·exact hgc g hg
   ·exact hg0 g hg
  have hs:=cd (a:=a) h h2 hl ho (l:=CM m a.s a.c.toNat w.toNat++CM m a.s 0 w.toNat) (fun g hg=>by have:=hga g hg; omega)
  have hadr:=oQ (a:=a) hl (by omega) hga
  unfold cK
  split
  ·exact ⟨hs.inv,hs.inv2,hs.brt,hs.len,hs.adr,mj _ _ _ _,mi _ _ _ _,ho.put false (by omega) hll,fun hh=>by rename_i q; exact absurd (q.symm.trans hh) (by decide)⟩
  ·exact hs
 unfold gi
 split
 ·exact qN h h2 hl ho w
 split
 ·exact cd h h2 hl ho fun g hg=>by have:=hg0 g hg; omega
 split
 ·exact cd h h2 hl ho fun g hg=>by
   cases hb:MR (CM m a.s 0 w.toNat) with
   | none=>rw[hb] at hg; simp at hg
   | some e=>
     rw[hb] at hg; simp at hg; subst hg
     have:=hg0 g (bc hb); omega
 split
 ·exact nx
 split
 ·exact ln h h2 hl ho false (by omega)
 ·unfold JX
  split
  ·exact ⟨h,h2,rfl,rfl,by dsimp only; omega,mj _ _ _ _,mi _ _ _ _,ho.put false (by omega) (by omega),fun hh=>by cases hh⟩
  ·split
   ·exact ln h h2 hl ho true (by omega)
   ·obtain ⟨k1,k2,k3,k4⟩:=sM (a:=a) h h2
    have hr:=cE (m:=m) (a:=a) hl
    split
    ·exact ⟨k1,k2,k3,k4,by dsimp only; omega,mj _ _ _ _,mi _ _ _ _,ho.put false (by omega) (by omega),fun hh=>by cases hh⟩
    ·rename_i q
     exact ⟨k1,k2,k3,k4,by dsimp only; omega,rfl,rfl,ho,fun _=>by rw[sN (by simpa using q)]⟩
theorem lu (k:Nat) (p:Option Addr) (n:Int) (σ:Aa):Cy k (.func (.method "dustcart/alloc.place") #[Zr 0] #[]) [.pointer p,.int .i64 n] σ=Dp k p n σ:=by
 simp only[Cy,Dp,Ab]; kernel_rfl
theorem nI (k:Nat) (p:Option Addr) (n:Int) (σ:Aa):Cy k (.func (.method "dustcart/alloc.place") #[Zr 1] #[]) [.pointer p,.int .i64 n] σ=DF k p n σ:=by
 simp only[Cy,DF,Ab]; kernel_rfl
theorem nK (k:Nat) (p:Option Addr) (n:Int) (σ:Aa):Cy k (.func (.method "dustcart/alloc.place") #[Zr 2] #[]) [.pointer p,.int .i64 n] σ=DH k p n σ:=by
 simp only[Cy,DH,Ab]; kernel_rfl
theorem lx (k:Nat) (p:Option Addr) (n:Int) (σ:Aa):Cy k (.func (.method "dustcart/alloc.place") #[Zr 4] #[]) [.pointer p,.int .i64 n] σ=Dq k p n σ:=by
 simp only[Cy,Dq,Ab]; kernel_rfl
theorem pT (k:Nat) (hk:50000≤k) (h:Ah σ i m) (hA:Cs σ ab i a) (hab:ab ∉ i.l) (ho:a.ok) (hI:Inv m) (hI2:Inv2 m) (h0:B0 m) (hb:m.births<1000000) (r d c:Int):
  vh (B6 (k+13) (Ct ab) r d c σ) σ i ab (kY m a r d c):=by
 have pr:valid r d c=true→kS m a (gi m a (words r d c)):=fun hv=>by
  have:=Oi hv
  exact tm hI hI2 h.nt ho (by omega)
 refine rN k (by omega) h hA hab ho _ (fun hv σ0 g0 A0=>?_) (fun hv=>(pr hv).inv) (fun hv=>by rw[(pr hv).brt]; exact hb) (fun hv=>(pr hv).adr) (fun hv=>(pr hv).s)
 have hw:=Oi hv
 obtain ⟨w,hww⟩:∃ w:Nat,words r d c=(w:Int):=⟨(words r d c).toNat,by omega⟩
 have p0:=ho.p0
 rw[hww]
 unfold gi xx
 rw[Int.toNat_natCast]
 by_cases q:(w:Int)>32
 ·rw[if_pos q,if_pos q,Oj]
  exact sU (k+3) (by omega) g0 A0 hab (by omega)
 rw[if_neg q,if_neg q]
 by_cases q0:a.p=0
 ·rw[if_pos q0,q0,show (0:Int).toNat=0 from rfl,lu]
  exact fm k (by omega) g0 A0 hab ho hI h0 (by omega)
 rw[if_neg q0]
 by_cases q1:a.p=1
 ·rw[if_pos q1,q1,show (1:Int).toNat=1 from rfl,nI]
  exact ia k hk g0 A0 hab ho hI hI2 h0 (by omega)
 rw[if_neg q1]
 by_cases q2:a.p=2
 ·rw[if_pos q2,q2,show (2:Int).toNat=2 from rfl,nK]
  exact ik k (by omega) g0 A0 hab ho hI h0 (by omega)
 rw[if_neg q2]
 by_cases q3:a.p=3
 ·rw[if_pos q3,q3,show (3:Int).toNat=3 from rfl,nJ]
  exact ib (k+1) (by omega) g0 A0 hab ho (by omega)
 rw[if_neg q3,show a.p.toNat=4 from by omega,lx]
 exact fW k (by omega) g0 A0 hab ho hI hI2 h0 (by omega)
end Go.Proofs.YtlaplcglpnlieaaGreat
end
section
namespace Go.Proofs.YtlaplcglpnlieaaGreat
open Go Go.AX
noncomputable local instance zU:Bb:=Az
local instance yW:Kn:=⟨true⟩
variable {σ:Aa} {m:HM} {t:RM} {j:RI} {rb:Nat} {a:AS}
structure dg (m:HM):Prop where
 inv:Inv m
 inv2:Inv2 m
 sh:Sh m
 fz:FZ m
 b0:B0 m
 nb:2≤m.bls.length
 nt:m.bls.length≤64
theorem dg.sr (h:dg m) (b c x y x' y':Int) (hx:x≠0) (hx':x'≠0∨c=1):dg (Cw m b c x y x' y').2:=by
 have k:=NS h.inv h.inv2 b c x y x' y'
 exact ⟨k.inv,k.inv2,qt h.sh _ _ _ _ _ _,bf h.fz _ _ _ _ _ _ hx hx',(bd m b c x y x' y').trans h.b0,by rw[k.len]; exact h.nb,by rw[k.len]; exact h.nt⟩
theorem oE (m:HM) (x r d c:Int):(CC m x r d c).2.2.bls=m.bls:=by
 unfold CC; split
 ·split <;> rfl
 ·rfl
theorem ra (h:Sh m) (x r d c:Int):Sh (CC m x r d c).2.2:=by
 unfold CC; split
 ·split
  ·obtain ⟨p,q,u⟩:=h
   exact ⟨by simp only[DP,List.length_set]; exact p,by simp only[DP]; rw[Og]; exact q,u⟩
  ·exact h
 ·exact h
theorem dg.place (h:dg m) (x r d c:Int):dg (CC m x r d c).2.2:=by
 have k:=T5 h.inv h.inv2 h.sh x r d c
 have e:=oE m x r d c
 exact ⟨k.inv,k.inv2,ra h.sh _ _ _ _,TK h.fz e,by unfold B0; rw[e]; exact h.b0,by rw[e]; exact h.nb,by rw[e]; exact h.nt⟩
theorem XP (h:dg m) (b:Nat) (s:Int):dg (HE m b s):=h.sr _ _ _ _ _ _ (by decide) (.inr rfl)
theorem sk (h:dg m) (s:Int):dg (WU m s):=by
 unfold WU; split
 ·exact XP h _ _
 ·exact h
theorem VI (h:dg m) (l:List (Nat × Nat)):dg (C1 m a l).2.1:=by
 unfold C1; split
 ·exact h
 ·split
  ·exact XP h _ _
  ·exact h
theorem iF (h:dg m) (v:Bool) (w:Int):dg (Eu m a v w).2.1:=by
 unfold Eu; split
 ·exact h
 ·split
  ·exact XP h _ _
  ·exact h
theorem oo (h:dg m) (w:Int):dg (N5 m a w).2.1:=by
 unfold N5; split
 ·exact h.sr _ _ _ _ _ _ (by decide) (.inl (by decide))
 ·exact h
theorem iX (h:dg m):dg (ON m a):=by
 unfold ON; split
 ·exact h
 ·exact sk h _
theorem ox (h:dg m) (w:Int):dg (JX m a w).2.1:=by
 unfold JX; split
 ·exact h
 ·split
  ·exact iF h _ _
  ·split
   ·exact iX h
   ·exact iX h
theorem uI (h:dg m) (w:Int):dg (gi m a w).2.1:=by
 unfold gi; split
 ·exact oo h w
 split
 ·exact VI h _
 split
 ·exact VI h _
 split
 ·unfold cK; split
  ·exact VI h _
  ·exact VI h _
 split
 ·exact iF h _ _
 ·exact ox h w
def Ly (σ:Aa) (rb:Nat) (j:RI) (a:AS):Prop:=σ[rb]?=some (.cells (a.row j.hb) Bz true)
theorem Ly.Z2 (h:Ly σ rb j a):J4 σ rb 0=some (AY j):=by unfold Ly AS.row at h; simp[J4,Gr,h,TZ]
theorem Ly.l1 (h:Ly σ rb j a):Ak .i64 σ rb 1=some a.s:=by unfold Ly AS.row at h; simp[Ak,Gr,h,Bu]
theorem Ly.l2 (h:Ly σ rb j a):Ak .i64 σ rb 2=some a.p:=by unfold Ly AS.row at h; simp[Ak,Gr,h,Bu]
theorem Ly.l3 (h:Ly σ rb j a):Ak .i64 σ rb 3=some a.c:=by unfold Ly AS.row at h; simp[Ak,Gr,h,Bu]
theorem Ly.l4 (h:Ly σ rb j a):Ak .i64 σ rb 4=some a.l:=by unfold Ly AS.row at h; simp[Ak,Gr,h,Bu]
theorem Ly.l5 (h:Ly σ rb j a):Ak .i64 σ rb 5=some a.oc:=by unfold Ly AS.row at h; simp[Ak,Gr,h,Bu]
theorem Ly.l6 (h:Ly σ rb j a):Ak .i64 σ rb 6=some a.ol:=by unfold Ly AS.row at h; simp[Ak,Gr,h,Bu]
theorem Ly.Cx {σ':Aa} {j':RI} (h:Ly σ rb j a) (hs:σ'[rb]?=σ[rb]?) (hj:j'.hb=j.hb):Ly σ' rb j' a:=by unfold Ly; rw[hs,hj]; exact h
theorem Ly.put (h:Ly σ rb j a) (a':AS):Ly (σ.set rb (.cells (a'.row j.hb) Bz true)) rb j a':=by
 unfold Ly; rw[List.getElem?_set_self (Af h)]
theorem Ly.Gn (h:Ly σ rb j a) (o:Nat) (v:Value) (a':AS) (hv:(a.row j.hb).set o v=a'.row j.hb) (hl:o<7):AX.Gn σ rb o v=some (σ.set rb (.cells (a'.row j.hb) Bz true)):=by
 have h':=h
 unfold Ly at h'
 simp only[AX.Gn,h']
 rw[if_pos (by simpa [AS.row] using hl),hv]
structure Uc (σ:Aa) (j:RI) (rb:Nat) (m:HM) (t:RM) (a:AS):Prop where
 g:RG σ j m t
 P:Pt m
 M:dg m
 al:Ly σ rb j a
 off:rb ∉ j.l
theorem Uc.app (h:Uc σ j rb m t a) (τ:Aa):Uc (σ++τ) j rb m t a:=⟨h.g.app τ,h.P,h.M,h.al.Cx (List.getElem?_append_left (Af h.al)) rfl,h.off⟩
structure E7 (j j':RI) (rb:Nat) (σ σ':Aa):Prop where
 len:σ.length≤σ'.length
 same:∀ q,q<σ.length→q ∉ j.l→q≠rb→σ'[q]?=σ[q]?
 new:∀ q,q ∈ j'.l→q ∈ j.l∨σ.length≤q
 hb:j'.hb=j.hb
theorem E7.of {j':RI} {σ':Aa} (h:HT j j' σ σ'):E7 j j' rb σ σ':=⟨h.len,fun q h1 h2 _=>h.same q h1 h2,h.new,h.hb⟩
theorem E7.app (j:RI) (σ τ:Aa):E7 j j rb σ (σ++τ):=.of (HT.app j σ τ)
theorem E7.refl (j:RI) (σ:Aa):E7 j j rb σ σ:=.of (HT.refl j σ)
theorem E7.set (j:RI) (σ:Aa) (o:AJ):E7 j j rb σ (σ.set rb o):=⟨by simp,fun q _ _ h=>List.getElem?_set_ne fun e=>h e.symm,fun _ h=>.inl h,rfl⟩
theorem E7.trans {x y z:Aa} {j j' j'':RI} (h:E7 j j' rb x y) (g:E7 j' j'' rb y z):E7 j j'' rb x z:=by
 refine ⟨Nat.le_trans h.len g.len,fun q h1 h2 h3=>?_,fun q hq=>?_,g.hb.trans h.hb⟩
 ·refine (g.same q (Nat.lt_of_lt_of_le h1 h.len) (fun hm=>?_) h3).trans (h.same q h1 h2 h3)
  rcases h.new q hm with h4 | h4
  ·exact h2 h4
  ·omega
 ·rcases g.new q hq with h1 | h1
  ·exact h.new q h1
  ·exact .inr (Nat.le_trans h.len h1)
theorem Uc.TU (h:Uc σ j rb m t a) (a':AS):Uc (σ.set rb (.cells (a'.row j.hb) Bz true)) j rb m t a':=
 ⟨h.g.Cx (fun q hq=>List.getElem?_set_ne fun e=>h.off (by rw[e]; exact hq)) (by simp),h.P,h.M,h.al.put a',h.off⟩
def TE (mm:Option (Value × Aa)) (σ:Aa) (j:RI) (rb:Nat) (v:Value) (m':HM) (a':AS):Prop:=
 ∃ σ' j' t',mm=some (v,σ')∧Uc σ' j' rb m' t' a'∧E7 j j' rb σ σ'
theorem Uc.vQ (h:Uc σ j rb m t a) {mm:Option (Value × Aa)} {v:Value} {m':HM} (hg:Is mm σ j v m') (hM:dg m'):TE mm σ j rb v m' a:=by
 obtain ⟨σ',j',t',e,r,s,p,k⟩:=hg
 refine ⟨σ',j',t',e,⟨⟨r,s,hM.inv,hM.inv2,hM.sh.wl,hM.nb,hM.nt⟩,p,hM,h.al.Cx (k.same rb (Af h.al) h.off) k.hb,fun hm=>?_⟩,.of k⟩
 rcases k.new rb hm with h1 | h1
 ·exact h.off h1
 ·have:=Af h.al; omega
theorem vM (x:Addr):PX P Ch (.pointer (some x)) (.pointer none)=some false:=by kernel_rfl
theorem XY (k:Nat) (h:Uc σ j rb m t a):AM (k+2) (Ct rb) σ=some (.bool true,σ):=by
 rw[SR,Oz]
 simp only[vM,Option.bind_some,Bool.not_false,cond_true,Nat.zero_add,Nat.add_zero,h.al.Z2,FD k h.g,Ao]
def nk (m:HM) (c:Nat):Nat→Nat→Option Nat
 | 0,_=>none
 | n+1,x=>if x+c≤m.bls.length then (if Jv m.bls x c 0=none then some x else nk m c n (x+1)) else none
theorem lQ {c:Nat}:∀ {n x b:Nat},nk m c n x=some b→x≤b∧b+c≤m.bls.length
 | 0,x,b,h=>by cases h
 | n+1,x,b,h=>by
   unfold nk at h
   split at h
   ·split at h
    ·cases h; exact ⟨Nat.le_refl _,by assumption⟩
    ·have:=lQ h; omega
   ·cases h
theorem lX {c:Nat} {s:Int} (hs:0≤s∧s<8) (hc:1≤c):∀ (n x:Nat),1≤x→pG m c s n x=nk m c n x
 | 0,x,_=>rfl
 | n+1,x,hx=>by
   unfold pG nk
   by_cases q:x+c≤m.bls.length
   ·rw[if_pos q,if_pos q,lX hs hc n (x+1) (by omega)]
    have e:(1≤(x:Int)∧(x:Int)<(m.bls.length:Int)∧(1:Int)≤(c:Int)∧(c:Int)≤(m.bls.length:Int)-(x:Int)∧X3 s=true):=⟨by omega,by omega,by omega,by omega,by unfold X3; simpa using hs⟩
    unfold Cw
    rw[if_pos e,Int.toNat_natCast,Int.toNat_natCast]
    by_cases q2:Jv m.bls x c 0=none
    ·rw[if_pos q2,if_pos q2,if_pos rfl]
    ·rw[if_neg q2,if_neg q2,if_neg (by dsimp only; decide)]
   ·rw[if_neg q,if_neg q]
theorem fq:∀ (n x:Nat),x+n=m.bls.length→U0 m n x=nk m 1 (n+1) x
 | 0,x,h=>by unfold U0 nk; rw[if_neg (by omega)]
 | n+1,x,h=>by
   rw[U0,nk,if_pos (show x+1≤m.bls.length by omega),fq n (x+1) (by omega)]
   by_cases q:(m.bls.getD x (0,0)).1=0∧(m.bls.getD x (0,0)).2=0
   ·rw[if_pos q,if_pos (show Jv m.bls x 1 0=none by simp only[Jv,Nat.add_zero,q,and_self,if_true])]
   ·rw[if_neg q,if_neg (show ¬ Jv m.bls x 1 0=none by simp only[Jv,Nat.add_zero,if_neg q]; simp)]
theorem Zj (h:1≤m.bls.length):Tv m=nk m 1 m.bls.length 1:=by
 unfold Tv
 rw[fq _ _ (by omega)]
 congr 1; omega
theorem fu (k:Nat) (h:RG σ j m t) (hz:FZ m) {c x:Nat} (hx:x+c≤m.bls.length):∀ (n y f:Nat),y+n=c→n<f→Jv m.bls x y 0=none →
  ∃ r:Nat,I9 (k+2) f (AY j) (c:Int) (x:Int) (y:Int) σ=some (.exit 2,[.int .i64 (r:Int)],σ)∧(r=c↔Jv m.bls x c 0=none)∧r≤c
 | n,y,0,hy,hf,hu=>by omega
 | 0,y,f+1,hy,hf,hu=>by
   rw[Sw,QG]
   obtain rfl:y=c:=by omega
   exact ⟨y,by simp only[decide_eq_false (Int.lt_irrefl _),cond_false,Option.bind_some],⟨fun _=>hu,fun _=>rfl⟩,Nat.le_refl _⟩
 | n+1,y,f+1,hy,hf,hu=>by
   have hnt:=h.nt
   rw[Sw,QG]
   have w1:Ae ((x:Int)+(y:Int))=((x+y:Nat):Int):=Ad (by unfold AV; omega)
   have w2:Ae ((y:Int)+1)=((y+1:Nat):Int):=Ad (by unfold AV; omega)
   have es:Ij m ((x+y:Nat):Int)=(m.bls.getD (x+y) (0,0)).1:=by
    unfold Ij; rw[if_pos (by omega),Int.toNat_natCast]
   simp only[decide_eq_true (show (y:Int)<(c:Int) by omega),cond_true,w1,PH k h,es,Option.bind_some,Am]
   by_cases q:(m.bls.getD (x+y) (0,0)).1=0
   ·have hu':Jv m.bls x (y+1) 0=none:=by
     rw[Yd hz] at hu ⊢
     intro c' c1 c2
     by_cases q2:c'=y
     ·rw[q2]; exact q
     ·exact hu c' c1 (by omega)
    obtain ⟨r,e1,e2,e3⟩:=fu k h hz hx n (y+1) f (by omega) (by omega) hu'
    exact ⟨r,by simp only[show ((m.bls.getD (x+y) (0,0)).1 == 0)=true from by simpa using q,cond_true,w2,e1],e2,e3⟩
   ·refine ⟨y,by simp only[show ((m.bls.getD (x+y) (0,0)).1 == 0)=false from by simpa using q,cond_false],⟨fun hh=>by omega,fun hh=>?_⟩,by omega⟩
    rw[Yd hz] at hh
    exact absurd (hh y (by omega) (by omega)) q
theorem ft (k:Nat) (hk:5000≤k) (h:RG σ j m t) (hz:FZ m) {c:Nat} (hc:c≤100):∀ (n x f:Nat),m.bls.length<x+n→x≤200→n<f →
  I8 (k+2) f (AY j) (c:Int) (x:Int) σ=some (match nk m c n x with | some b=>(.ret,[.int .i64 (b:Int)],σ) | none=>(.exit 0,[],σ))
 | n,x,0,hx,hx2,hf=>by omega
 | n,x,f+1,hx,hx2,hf=>by
   have hnt:=h.nt
   have w1:Ae ((x:Int)+(c:Int))=((x+c:Nat):Int):=Ad (by unfold AV; omega)
   have w2:Ae ((x:Int)+1)=((x+1:Nat):Int):=Ad (by unfold AV; omega)
   have eb:Ay (k+2) (AY j) σ=_:=Jr k h
   rw[Zf,VR]
   simp only[eb,Option.bind_some,Am,w1]
   by_cases q:x+c≤m.bls.length
   ·obtain ⟨n,rfl⟩:∃ n',n=n'+1:=⟨n-1,by omega⟩
    obtain ⟨r,e1,e2,e3⟩:=fu k h hz q c 0 (k+2) (by omega) (by omega) rfl
    rw[show ((0:Nat):Int)=0 from rfl] at e1
    simp only[decide_eq_true (show ((x+c:Nat):Int)≤((m.bls.length:Nat):Int) by omega),cond_true,e1,Option.bind_some,if_true,DQ,nk,if_pos q,w2]
    by_cases q2:Jv m.bls x c 0=none
    ·rw[if_pos q2,show ((r:Int) == (c:Int))=true from by have:=e2.2 q2; simp[this]]; rfl
    ·rw[if_neg q2,show ((r:Int) == (c:Int))=false from by rw[beq_eq_false_iff_ne]; intro hh; exact q2 (e2.1 (by omega))]
     simp only[cond_false]
     exact ft k hk h hz hc n (x+1) f (by omega) (by omega) (by omega)
   ·have z:nk m c n x=none:=by
     cases n with
     | zero=>rfl
     | succ n=>rw[nk,if_neg q]
    simp only[decide_eq_false (show ¬ ((x+c:Nat):Int)≤((m.bls.length:Nat):Int) by omega),cond_false,z]
theorem dB (k:Nat) (hk:5000≤k) (h:RG σ j m t) (hz:FZ m) {c:Nat} (hc:c≤100):EE (k+3) (AY j) (c:Int) σ=some (.int .i64 (match nk m c m.bls.length 1 with | some b=>(b:Int) | none=>0),σ):=by
 have hnt:=h.nt
 have e:=ft k hk h hz hc m.bls.length 1 (k+2) (by omega) (by omega) (by omega)
 rw[show ((1:Nat):Int)=1 from rfl] at e
 rw[dq,ZF]
 simp only[e,Option.bind_some]
 cases nk m c m.bls.length 1 with
 | none=>simp only[if_true]
 | some b=>simp only[show (Br.ret=Br.exit 0)=False from by simp,if_false,if_true,DQ]
def kQ (m:HM) (s x:Int) (r d c:Int):(Int × Int) × HM:=
 if ¬ words r d c>32∧W8 m (x.tdiv 64)≠s then ((0,6),m)
 else if (CC m x r d c).2.1=0 then ((x,0),(CC m x r d c).2.2) else ((0,6),(CC m x r d c).2.2)
theorem tJ (m:HM) (b:Int):VF m b=W8 m b:=rfl
theorem UC (k:Nat) (hk:5000≤k) (h:Uc σ j rb m t a) {x:Int} (hx:0≤x∧x≤100000) (bl:Nat) {r d c:Int} (hb:m.births<1000000) {m1:HM} (hm1:m1=if 0<bl then HE m bl a.s else m):
  TE (A8 (k+6) (Ct rb) x (bl:Int) r d c σ) σ j rb (.tuple #[.int .i64 (kQ m1 a.s x r d c).1.1,.int .i64 (kQ m1 a.s x r d c).1.2]) (kQ m1 a.s x r d c).2 a:=by
 have bx:∀ {μ:Aa} {q:Nat},μ[q]?=some (AJ.cells [Value.int .i64 r,.int .i64 d,.int .i64 c] Ag true)→Ak .i64 μ q 0=some r∧Ak .i64 μ q 1=some d∧Ak .i64 μ q 2=some c:=by
  intro μ q hm; simp[Ak,Gr,hm,Bu]
 have hlt:=Af h.al
 have hns:σ.length ∉ j.l:=fun hm=>Nat.lt_irrefl _ (h.g.at_.lt _ hm)
 obtain ⟨μ0,hμ0⟩:∃ μ0,σ++[AJ.cells [Value.int .i64 r,.int .i64 d,.int .i64 c] Ag true]=μ0:=⟨_,rfl⟩
 have h0:Uc μ0 j rb m t a:=hμ0 ▸ h.app _
 have K0:E7 j j rb σ μ0:=hμ0 ▸ E7.app j σ _
 have S0:μ0[σ.length]?=some (AJ.cells [Value.int .i64 r,.int .i64 d,.int .i64 c] Ag true):=by rw[← hμ0]; simp
 obtain ⟨μ1,j1,t1,e1,h1,K1,S1⟩:∃ μ1 j1 t1,((bif decide ((bl:Int)>0) then ((Df (k+5) (AY j) (bl:Int) a.s μ0).bind fun r7=>(Bu .i64 r7.1).bind fun n8=>some (Br.normal,[],r7.2)) else (some (Br.normal,[],μ0)):Option Ax))=some (.normal,[],μ1)∧Uc μ1 j1 rb m1 t1 a∧E7 j j1 rb σ μ1∧μ1[σ.length]?=some (AJ.cells [Value.int .i64 r,.int .i64 d,.int .i64 c] Ag true):=by
  by_cases q:0<bl
  ·rw[if_pos q] at hm1
   obtain ⟨μ1,j1,t1,e1,h1,K1⟩:=h0.vQ (jt (k+3) h0.g h0.P h0.M.fz (bl:Int) a.s) (by rw[show (Cw m (bl:Int) 1 1 a.s 0 0).2=HE m bl a.s from rfl]; exact XP h.M _ _)
   refine ⟨μ1,j1,t1, ?_,by rw[hm1]; exact h1,K0.trans K1,by rw[K1.same _ (Af S0) hns (by omega)]; exact S0⟩
   rw[decide_eq_true (show (bl:Int)>0 by omega)]
   simp only[cond_true,e1,Option.bind_some,Am]
  ·rw[if_neg q] at hm1
   exact ⟨μ0,j,t,by rw[decide_eq_false (show ¬ (bl:Int)>0 by omega)]; rfl,by rw[hm1]; exact h0,K0,S0⟩
 have hM1:=h1.M
 have hb1:m1.births<1000000:=by
  rw[hm1]; split
  ·unfold HE; rw[Vg]; exact hb
  ·exact hb
 obtain ⟨τ2,e2⟩:=bQ (k+2) r d c μ1
 obtain ⟨μ2,hμ2⟩:∃ μ2,μ1++τ2=μ2:=⟨_,rfl⟩
 rw[hμ2] at e2
 have e2':Ff (k+5) r d c μ1=_:=e2
 have h2:Uc μ2 j1 rb m1 t1 a:=hμ2 ▸ h1.app _
 have K2:E7 j j1 rb σ μ2:=hμ2 ▸ K1.trans (E7.app _ _ _)
 have S2:μ2[σ.length]?=some (AJ.cells [Value.int .i64 r,.int .i64 d,.int .i64 c] Ag true):=by rw[← hμ2,List.getElem?_append_left (Af S1)]; exact S1
 obtain ⟨a0,a1,a2⟩:=bx S1
 obtain ⟨c0,c1,c2⟩:=bx S2
 have wq:Ae (x.tdiv 64)=x.tdiv 64:=by
  rw[Int.tdiv_eq_ediv_of_nonneg hx.1]; exact Ad (by unfold AV; omega)
 have es:B3 (k+5) (AY j1) (x.tdiv 64) μ2=_:=XW (k+3) h2.g (x.tdiv 64)
 obtain ⟨μ3,j3,t3,e3,h3,K3⟩:=h2.vQ (jz k hk h2.g h2.P hM1.sh hb1 x r d c) (hM1.place x r d c)
 rw[Sv,NR]
 unfold kQ
 simp only[An,hμ0,Option.bind_some,Nat.zero_add,Nat.add_zero,h0.al.Z2,h0.al.l1,e1,if_true,Nat.reduceAdd,a0,a1,a2,e2',Ao,h2.al.Z2,wq,es,Am,h2.al.l1,tJ,c0,c1,c2,e3,Dj]
 rw[if_neg (show ¬ (64:Int)=0 by decide)]
 have fin:TE (bif (CC m1 x r d c).2.1 != 0 then (some (.tuple #[.int .i64 (0:Int),.int .i64 (6:Int)],μ3)) else (some (.tuple #[.int .i64 x,.int .i64 (0:Int)],μ3))) σ j rb (.tuple #[.int .i64 (if (CC m1 x r d c).2.1=0 then ((x,(0:Int)),(CC m1 x r d c).2.2) else ((0,6),(CC m1 x r d c).2.2)).1.1,.int .i64 (if (CC m1 x r d c).2.1=0 then ((x,(0:Int)),(CC m1 x r d c).2.2) else ((0,6),(CC m1 x r d c).2.2)).1.2]) (if (CC m1 x r d c).2.1=0 then ((x,(0:Int)),(CC m1 x r d c).2.2) else ((0,6),(CC m1 x r d c).2.2)).2 a:=by
  by_cases q:(CC m1 x r d c).2.1=0
  ·rw[if_pos q,show ((CC m1 x r d c).2.1 != 0)=false from by simpa using q]
   exact ⟨μ3,j3,t3,rfl,h3,K2.trans K3⟩
  ·rw[if_neg q,show ((CC m1 x r d c).2.1 != 0)=true from by simpa using q]
   exact ⟨μ3,j3,t3,rfl,h3,K2.trans K3⟩
 by_cases q:words r d c>32
 ·rw[if_neg (show ¬ (¬ words r d c>32∧W8 m1 (x.tdiv 64)≠a.s) from fun hh=>hh.1 q)]
  simp only[decide_eq_true q,Bool.not_true,cond_false,Option.bind_some,h2.al.Z2,c0,c1,c2,e3,Dj]
  exact fin
 ·by_cases q2:W8 m1 (x.tdiv 64)=a.s
  ·rw[if_neg (show ¬ (¬ words r d c>32∧W8 m1 (x.tdiv 64)≠a.s) from fun hh=>hh.2 q2)]
   simp only[decide_eq_false q,Bool.not_false,cond_true,Option.bind_some,q2,bne_self_eq_false,cond_false,h2.al.Z2,c0,c1,c2,e3,Dj]
   exact fin
  ·rw[if_pos (show (¬ words r d c>32∧W8 m1 (x.tdiv 64)≠a.s) from ⟨q,q2⟩)]
   simp only[decide_eq_false q,Bool.not_false,cond_true,Option.bind_some,show (W8 m1 (x.tdiv 64) != a.s)=true from by simpa using q2]
   exact ⟨μ2,j1,t1,rfl,h2,K2⟩
theorem XV {m1:HM} {r d c:Int} {pr:PR} (hv:valid r d c=true) (hw:¬ words r d c>32) (ho:pr.1.2=true) (hm:pr.2.1=m1):Cj m a r d c pr=((kQ m1 a.s pr.1.1 r d c).1,(kQ m1 a.s pr.1.1 r d c).2,if (kQ m1 a.s pr.1.1 r d c).1.2=0 then pr.2.2 else a):=by
 unfold Cj kQ
 rw[if_pos hv,if_pos ho,hm]
 by_cases q:W8 m1 (pr.1.1.tdiv 64)=a.s
 ·rw[if_pos q,if_neg (show ¬ (¬ words r d c>32∧W8 m1 (pr.1.1.tdiv 64)≠a.s) from fun hh=>hh.2 q)]
  by_cases q2:(CC m1 pr.1.1 r d c).2.1=0
  ·rw[if_pos q2,if_pos q2,if_pos rfl]
  ·rw[if_neg q2,if_neg q2,if_neg (by dsimp only; decide)]
 ·rw[if_neg q,if_pos ⟨hw,q⟩,if_neg (by dsimp only; decide)]
end Go.Proofs.YtlaplcglpnlieaaGreat
end
