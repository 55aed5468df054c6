/- A list of gaps in memory, swapped: insertion sort, swapRange, rotate.; symMerge and the stable sort of gaps. -/
import Derived.Test.YtlaplcglpnlieaaGreatP21
set_option linter.unusedVariables false
set_option linter.unusedSimpArgs false
set_option linter.unusedSectionVars false
section
namespace Go.Proofs.YtlaplcglpnlieaaGreat
open Go Go.AX
noncomputable local instance zQ:Bb:=Az
local instance yR:Kn:=⟨true⟩
variable {σ:Aa} {b:Nat} {R:List (Nat × Nat)}
def gd (R:List (Nat × Nat)) (x:Nat):Nat × Nat:=R.getD x (0,0)
def Ho (σ:Aa) (b:Nat) (R:List (Nat × Nat)):Prop:=σ[b]?=some (.cells (Bh R) Aj true)
structure FK (b:Nat) (σ σ':Aa):Prop where
 len:σ.length≤σ'.length
 same:∀ q,q<σ.length→q≠b→σ'[q]?=σ[q]?
theorem FK.refl (σ:Aa):FK b σ σ:=⟨Nat.le_refl _,fun _ _ _=>rfl⟩
theorem FK.trans {x y z:Aa} (h:FK b x y) (g:FK b y z):FK b x z:=⟨Nat.le_trans h.len g.len,fun q h1 h2=>(g.same q (Nat.lt_of_lt_of_le h1 h.len) h2).trans (h.same q h1 h2)⟩
theorem FK.app (σ τ:Aa):FK b σ (σ++τ):=⟨by simp,fun q h _=>List.getElem?_append_left h⟩
theorem FK.set (σ:Aa) (o:AJ):FK b σ (σ.set b o):=⟨by simp,fun q _ h=>List.getElem?_set_ne fun e=>h e.symm⟩
theorem Ho.app (h:Ho σ b R) (τ:Aa):Ho (σ++τ) b R:=by unfold Ho; rw[List.getElem?_append_left (Af h)]; exact h
theorem Ho.ld (h:Ho σ b R) {x:Nat} (hx:x<R.length):Ak .i64 σ b (x*2)=some ((gd R x).1:Int)∧Ak .i64 σ b (x*2+1)=some ((gd R x).2:Int):=by
 obtain ⟨h1,h2⟩:=Zv R x hx
 unfold Ho at h
 exact ⟨by simp only[Ak,Gr,h,h1,Option.bind_some,Am]; rfl,by simp only[Ak,Gr,h,h2,Option.bind_some,Am]; rfl⟩
theorem gy:∀ (R:List (Nat × Nat)) (x:Nat) (e:Nat × Nat),x<R.length→AN (Bh R) (x*2) [.int .i64 (e.1:Int),.int .i64 (e.2:Int)]=Bh (R.set x e)
 | g::R,0,e,h=>by simp[Bh,AN]
 | g::R,x+1,e,h=>by
   have ih:=gy R x e (by simpa using h)
   simp only[List.set_cons_succ,Bh,← ih,AN]
   rw[show (x+1)*2=x*2+1+1 from by omega]
   simp[List.take_succ_cons,List.drop_succ_cons,Nat.add_right_comm]
theorem Ho.st (h:Ho σ b R) {x:Nat} (hx:x<R.length) (e:Nat × Nat):Ip σ b (x*2) [.int .i64 (e.1:Int),.int .i64 (e.2:Int)]=some (σ.set b (.cells (Bh (R.set x e)) Aj true))∧Ho (σ.set b (.cells (Bh (R.set x e)) Aj true)) b (R.set x e):=by
 have h':=h
 unfold Ho at h'
 constructor
 ·simp only[Ip,h']
  rw[if_pos (by rw[N7]; simp; omega),gy R x e hx]
 ·unfold Ho; rw[List.getElem?_set_self (Af h)]
theorem sI (R:List (Nat × Nat)) (x y:Nat) (e:Nat × Nat) (hx:x<R.length):gd (R.set x e) y=if y=x then e else gd R y:=by
 unfold gd
 rw[List.getD_eq_getElem?_getD,List.getElem?_set]
 by_cases q:x=y
 ·subst q; rw[if_pos rfl,if_pos rfl,if_pos hx]; rfl
 ·rw[if_neg q,if_neg (fun e=>q e.symm),List.getD_eq_getElem?_getD]
def sw (R:List (Nat × Nat)) (x y:Nat):List (Nat × Nat):=(R.set x (gd R y)).set y (gd R x)
theorem gM (R:List (Nat × Nat)) (x y:Nat):(sw R x y).length=R.length:=by simp[sw]
theorem lR (R:List (Nat × Nat)) (x y z:Nat) (hx:x<R.length) (hy:y<R.length):gd (sw R x y) z=if z=y then gd R x else if z=x then gd R y else gd R z:=by
 unfold sw
 rw[sI _ _ _ _ (by simpa using hy),sI _ _ _ _ hx]
theorem Ho.sw (h:Ho σ b R) {x y:Nat} (hx:x<R.length) (hy:y<R.length):
  ∃ σ1 σ2,Ip σ b (x*2) [.int .i64 ((gd R y).1:Int),.int .i64 ((gd R y).2:Int)]=some σ1∧Ip σ1 b (y*2) [.int .i64 ((gd R x).1:Int),.int .i64 ((gd R x).2:Int)]=some σ2∧Ho σ2 b (sw R x y)∧FK b σ σ2:=by
 obtain ⟨e1,h1⟩:=h.st hx (gd R y)
 obtain ⟨e2,h2⟩:=h1.st (x:=y) (by simpa using hy) (gd R x)
 exact ⟨_,_,e1,e2,h2,(FK.set _ _).trans (FK.set _ _)⟩
abbrev Sd:Value:=.func (.func OL) #[] #[]
def gZ (R:List (Nat × Nat)):Prop:=∀ x,(gd R x).1≤10000∧(gd R x).2≤10000
theorem jW (k:Nat) (e g:Nat × Nat) (he:e.2≤10000) (hg:g.2≤10000) (σ:Aa):∃ τ,Dx (k+1) Sd [.agg #[.int .i64 (e.1:Int),.int .i64 (e.2:Int)],.agg #[.int .i64 (g.1:Int),.int .i64 (g.2:Int)]] σ=some (.int .i64 ((e.2:Int)-(g.2:Int)),σ++τ):=by
 rw[show Sd = .func (.func OL) #[] #[] from rfl,O9,MS,KX]
 simp only[An]
 have l1:Ak .i64 (σ++[AJ.cells [.int .i64 (e.1:Int),.int .i64 (e.2:Int)] Aj true]++[AJ.cells [.int .i64 (g.1:Int),.int .i64 (g.2:Int)] Aj true]) σ.length 1=some (e.2:Int):=by
  rw[ke _ _ _ (by simp)]; exact (kP _ _ _ _).2
 have l2:=(kP (σ++[AJ.cells [.int .i64 (e.1:Int),.int .i64 (e.2:Int)] Aj true]) Aj (g.1:Int) (g.2:Int)).2
 simp only[Nat.zero_add,l1,l2,Option.bind_some,Ad (show AV ((e.2:Int)-(g.2:Int)) by unfold AV; omega)]
 exact ⟨_,by rw[List.append_assoc]⟩
theorem nR (e g:Nat × Nat):decide ((e.2:Int)-(g.2:Int)<0)=decide (e.2<g.2):=by
 by_cases q:e.2<g.2
 ·rw[decide_eq_true q,decide_eq_true (by omega)]
 ·rw[decide_eq_false q,decide_eq_false (by omega)]
def aa (e g:Nat × Nat):Prop:=e.2<g.2∨(e.2=g.2∧e.1<g.1)
theorem aa.trans {e g h:Nat × Nat} (a:aa e g) (c:aa g h):aa e h:=by unfold aa at *; omega
def UO (R:List (Nat × Nat)) (lo hi:Nat):Prop:=∀ x y,lo≤x→x<y→y<hi→aa (gd R x) (gd R y)
def Qc (R R':List (Nat × Nat)) (lo hi:Nat):Prop:=∀ e,(∃ x,lo≤x∧x<hi∧gd R' x=e)↔(∃ x,lo≤x∧x<hi∧gd R x=e)
def Ud (R R':List (Nat × Nat)) (lo hi:Nat):Prop:=∀ x,x<lo∨hi≤x→gd R' x=gd R x
structure df (R R':List (Nat × Nat)) (lo hi:Nat):Prop where
 len:R'.length=R.length
 srt:UO R' lo hi
 set:Qc R R' lo hi
 out:Ud R R' lo hi
theorem gZ.of {R':List (Nat × Nat)} {lo hi:Nat} (h:gZ R) (hs:Qc R R' lo hi) (ho:Ud R R' lo hi):gZ R':=by
 intro x
 by_cases q:lo≤x∧x<hi
 ·obtain ⟨y,_,_,hy⟩:=(hs (gd R' x)).1 ⟨x,q.1,q.2,rfl⟩
  rw[← hy]; exact h y
 ·rw[ho x (by omega)]; exact h x
theorem gZ.sw (h:gZ R) {x y:Nat} (hx:x<R.length) (hy:y<R.length):gZ (sw R x y):=by
 intro z
 rw[lR _ _ _ _ hx hy]
 split
 ·exact h x
 ·split
  ·exact h y
  ·exact h z
theorem iZ (k:Nat) {a:Nat} (hln:R.length≤3000):∀ (n j f:Nat) (σ:Aa) (R':List (Nat × Nat)),R'.length=R.length→Ho σ b R'→gZ R'→j=a+n→j<R.length→UO R' a j→(∀ x,a≤x→x<j→(gd R' x).1<(gd R' j).1)→n<f →
  ∃ σ' R'',AU (k+1) f (some ⟨b,0,none⟩) R.length R.length (a:Int) Sd (j:Int) σ=some (.exit 2,[],σ')∧Ho σ' b R''∧df R' R'' a (j+1)∧FK b σ σ'
 | n,j,0,σ,R',hl,h,hS,hj,hjl,hs,hlt,hf=>by omega
 | 0,j,f+1,σ,R',hl,h,hS,hj,hjl,hs,hlt,hf=>by
   rw[D5,CF]
   refine ⟨σ,R', ?_,h,⟨rfl,fun x y h1 h2 h3=>by omega,fun e=>Iff.rfl,fun x _=>rfl⟩,FK.refl _⟩
   simp only[decide_eq_false (show ¬ (j:Int)>(a:Int) by omega),cond_false,Option.bind_some]
 | n+1,j,f+1,σ,R',hl,h,hS,hj,hjl,hs,hlt,hf=>by
   obtain ⟨p,rfl⟩:∃ p,j=p+1:=⟨j-1,by omega⟩
   have w1:Ae (((p+1:Nat):Int)-1)=(p:Int):=by rw[Ad (by unfold AV; omega)]; omega
   obtain ⟨l0,l1⟩:=h.ld (x:=p+1) (by omega)
   obtain ⟨l2,l3⟩:=h.ld (x:=p) (by omega)
   obtain ⟨τ,ec⟩:=jW k (gd R' (p+1)) (gd R' p) (hS _).2 (hS _).2 σ
   have q1:(0≤((p+1:Nat):Int)∧((p+1:Nat):Int)<((R.length:Nat):Int))=True:=eq_true (by omega)
   have q2:(0≤((p:Nat):Int)∧((p:Nat):Int)<((R.length:Nat):Int))=True:=eq_true (by omega)
   have h1:=h.app τ
   obtain ⟨m0,m1⟩:=h1.ld (x:=p+1) (by omega)
   obtain ⟨m2,m3⟩:=h1.ld (x:=p) (by omega)
   rw[D5,CF]
   simp only[decide_eq_true (show ((p+1:Nat):Int)>(a:Int) by omega),cond_true,q1,q2,if_true,w1,Option.bind_some,Int.toNat_natCast,Nat.zero_add,l0,l1,l2,l3,ec,Am,nR,m0,m1,m2,m3]
   by_cases q:(gd R' (p+1)).2<(gd R' p).2
   ·obtain ⟨σ1,σ2,e1,e2,g2,o2⟩:=h1.sw (x:=p+1) (y:=p) (by omega) (by omega)
    have gs:∀ z,gd (sw R' (p+1) p) z=if z=p then gd R' (p+1) else if z=p+1 then gd R' p else gd R' z:=fun z=>lR _ _ _ _ (by omega) (by omega)
    obtain ⟨σ3,R3,e3,g3,d3,o3⟩:=iZ k (a:=a) hln n p f σ2 (sw R' (p+1) p) (by rw[gM]; exact hl) g2 (hS.sw (by omega) (by omega)) (by omega) (by omega) (fun x y a1 a2 a3=>by
     rw[gs,gs,if_neg (by omega),if_neg (by omega),if_neg (by omega),if_neg (by omega)]; exact hs x y a1 a2 (by omega)) (fun x a1 a2=>by
     rw[gs,gs,if_neg (by omega),if_neg (by omega),if_pos rfl]; exact hlt x a1 (by omega)) (by omega)
    refine ⟨σ3,R3, ?_,g3,⟨by rw[d3.len,gM], ?_, ?_, ?_⟩,((FK.app _ _).trans o2).trans o3⟩
    ·simp only[decide_eq_true q,cond_true,e1,Option.bind_some,e2,e3]
    ·intro x y a1 a2 a3
     by_cases q3:y<p+1
     ·exact d3.srt x y a1 a2 q3
     ·obtain rfl:y=p+1:=by omega
      rw[d3.out (p+1) (by omega),gs (p+1),if_neg (by omega),if_pos rfl]
      obtain ⟨z,z1,z2,hz⟩:=(d3.set (gd R3 x)).1 ⟨x,a1,by omega,rfl⟩
      rw[← hz,gs]
      split
      ·exact .inl q
      ·rw[if_neg (by omega)]; exact hs z p z1 (by omega) (by omega)
    ·intro e
     constructor
     ·rintro ⟨x,a1,a2,rfl⟩
      by_cases q3:x<p+1
      ·obtain ⟨z,z1,z2,hz⟩:=(d3.set (gd R3 x)).1 ⟨x,a1,q3,rfl⟩
       rw[← hz,gs]
       split
       ·exact ⟨p+1,by omega,by omega,rfl⟩
       ·rw[if_neg (by omega)]; exact ⟨z,z1,by omega,rfl⟩
      ·obtain rfl:x=p+1:=by omega
       rw[d3.out (p+1) (by omega),gs (p+1),if_neg (by omega),if_pos rfl]
       exact ⟨p,by omega,by omega,rfl⟩
     ·rintro ⟨x,a1,a2,rfl⟩
      by_cases q3:x=p
      ·subst q3
       refine ⟨x+1,by omega,by omega, ?_⟩
       rw[d3.out (x+1) (by omega),gs,if_neg (by omega),if_pos rfl]
      ·have:∃ z,a≤z∧z<p+1∧gd (sw R' (p+1) p) z=gd R' x:=by
        by_cases q4:x=p+1
        ·exact ⟨p,by omega,by omega,by rw[gs,if_pos rfl,q4]⟩
        ·exact ⟨x,a1,by omega,by rw[gs,if_neg q3,if_neg q4]⟩
       obtain ⟨z,z1,z2,z3⟩:=(d3.set (gd R' x)).2 this
       exact ⟨z,z1,by omega,z3⟩
    ·intro x hx
     rw[d3.out x (by omega),gs,if_neg (by omega),if_neg (by omega)]
   ·refine ⟨σ++τ,R', ?_,h1,⟨rfl, ?_,fun e=>Iff.rfl,fun x _=>rfl⟩,FK.app _ _⟩
    ·simp only[decide_eq_false q,cond_false]
    ·have key:aa (gd R' p) (gd R' (p+1)):=by
      have:=hlt p (by omega) (by omega)
      unfold aa; omega
     intro x y a1 a2 a3
     by_cases q3:y<p+1
     ·exact hs x y a1 a2 q3
     ·obtain rfl:y=p+1:=by omega
      by_cases q4:x=p
      ·subst q4; exact key
      ·exact (hs x p a1 (by omega) (by omega)).trans key
def xq (R:List (Nat × Nat)) (lo hi:Nat):Prop:=∀ x y,lo≤x→x<y→y<hi→(gd R x).1<(gd R y).1
theorem iY (k:Nat) (hk:5000≤k) {a c:Nat} (hln:R.length≤3000) (hc:c≤R.length):∀ (n j f:Nat) (σ:Aa) (R':List (Nat × Nat)),R'.length=R.length→Ho σ b R'→gZ R'→c≤j+n→a<j→UO R' a j→(∀ x y,a≤x→x<y→j≤y→y<c→(gd R' x).1<(gd R' y).1)→n<f →
  ∃ σ' R'',AR (k+1) f (some ⟨b,0,none⟩) R.length R.length (a:Int) (c:Int) Sd (j:Int) σ=some (.exit 0,[],σ')∧Ho σ' b R''∧df R' R'' a (max j c)∧FK b σ σ'
 | n,j,0,σ,R',hl,h,hS,hj,haj,hs,hlt,hf=>by omega
 | n,j,f+1,σ,R',hl,h,hS,hj,haj,hs,hlt,hf=>by
   rw[D4,CE]
   by_cases q:j<c
   ·obtain ⟨n,rfl⟩:∃ n',n=n'+1:=⟨n-1,by omega⟩
    obtain ⟨σ1,R1,e1,g1,d1,o1⟩:=iZ k (a:=a) hln (j-a) j (k+1) σ R' hl h hS (by omega) (by omega) hs (fun x a1 a2=>hlt x j a1 a2 (Nat.le_refl _) q) (by omega)
    have w1:Ae ((j:Int)+1)=((j+1:Nat):Int):=Ad (by unfold AV; omega)
    obtain ⟨σ2,R2,e2,g2,d2,o2⟩:=iY k hk (a:=a) hln hc n (j+1) f σ1 R1 (d1.len.trans hl) g1 (hS.of d1.set d1.out) (by omega) (by omega) d1.srt (fun x y a1 a2 a3 a4=>by
     rw[d1.out y (by omega)]
     by_cases q2:x<j+1
     ·obtain ⟨z,z1,z2,hz⟩:=(d1.set (gd R1 x)).1 ⟨x,a1,q2,rfl⟩
      rw[← hz]; exact hlt z y z1 (by omega) (by omega) a4
     ·rw[d1.out x (by omega)]; exact hlt x y a1 a2 (by omega) a4) (by omega)
    refine ⟨σ2,R2, ?_,g2,⟨d2.len.trans d1.len, ?_, ?_, ?_⟩,o1.trans o2⟩
    ·simp only[decide_eq_true (show (j:Int)<(c:Int) by omega),cond_true,e1,Option.bind_some,if_true,w1,e2]
    ·rw[show max j c=max (j+1) c from by omega]; exact d2.srt
    ·rw[show max j c=max (j+1) c from by omega]
     intro e
     rw[d2.set e]
     constructor
     ·rintro ⟨x,a1,a2,rfl⟩
      by_cases q2:x<j+1
      ·obtain ⟨z,z1,z2,hz⟩:=(d1.set (gd R1 x)).1 ⟨x,a1,q2,rfl⟩
       exact ⟨z,z1,by omega,hz⟩
      ·exact ⟨x,a1,a2,(d1.out x (by omega)).symm⟩
     ·rintro ⟨x,a1,a2,rfl⟩
      by_cases q2:x<j+1
      ·obtain ⟨z,z1,z2,hz⟩:=(d1.set (gd R' x)).2 ⟨x,a1,q2,rfl⟩
       exact ⟨z,z1,by omega,hz⟩
      ·exact ⟨x,a1,a2,d1.out x (by omega)⟩
    ·intro x hx
     rw[d2.out x (by omega),d1.out x (by omega)]
   ·rw[show max j c=j from by omega]
    refine ⟨σ,R', ?_,h,⟨rfl,hs,fun e=>Iff.rfl,fun x _=>rfl⟩,FK.refl _⟩
    simp only[decide_eq_false (show ¬ (j:Int)<(c:Int) by omega),cond_false]
theorem UO.one (a:Nat):UO R a (a+1):=fun x y h1 h2 h3=>by omega
theorem sP (k:Nat) (hk:5000≤k) {a c:Nat} (hln:R.length≤3000) (hac:a≤c) (hc:c≤R.length) (σ:Aa) (R':List (Nat × Nat)) (hl:R'.length=R.length) (h:Ho σ b R') (hS:gZ R') (hI:xq R' a c):
  ∃ σ' R'',AK (k+2) (some ⟨b,0,none⟩,R.length,R.length) (a:Int) (c:Int) Sd σ=some (.tuple #[],σ')∧Ho σ' b R''∧df R' R'' a c∧FK b σ σ':=by
 obtain ⟨σ1,R1,e1,g1,d1,o1⟩:=iY k hk (a:=a) hln hc (c-a) (a+1) (k+1) σ R' hl h hS (by omega) (by omega) (UO.one a) (fun x y a1 a2 a3 a4=>hI x y a1 a2 a4) (by omega)
 have w1:Ae ((a:Int)+1)=((a+1:Nat):Int):=Ad (by unfold AV; omega)
 refine ⟨σ1,R1, ?_,g1, ?_,o1⟩
 ·rw[Es,Dg]
  simp only[w1,e1,Option.bind_some,if_true]
 ·by_cases q:a<c
  ·rw[show max (a+1) c=c from by omega] at d1; exact d1
  ·obtain rfl:a=c:=by omega
   rw[show max (a+1) a=a+1 from by omega] at d1
   have e0:gd R1 a=gd R' a:=by
    obtain ⟨z,z1,z2,hz⟩:=(d1.set (gd R1 a)).1 ⟨a,Nat.le_refl _,by omega,rfl⟩
    obtain rfl:z=a:=by omega
    exact hz.symm
   exact ⟨d1.len,fun x y _ _ _=>by omega,fun e=>⟨fun ⟨x,_,_,_⟩=>by omega,fun ⟨x,_,_,_⟩=>by omega⟩,fun x _=>by
    by_cases q2:x=a
    ·rw[q2]; exact e0
    ·exact d1.out x (by omega)⟩
theorem jC (k:Nat) (hln:R.length≤3000) {p q c:Nat} (hpq:p+c≤q) (hq:q+c≤R.length):∀ (n x f:Nat) (σ:Aa) (R':List (Nat × Nat)),R'.length=R.length→Ho σ b R'→x+n=c→n<f →
  ∃ σ' R'',BM k f (some ⟨b,0,none⟩) R.length R.length (p:Int) (q:Int) (c:Int) (x:Int) σ=some (.exit 0,[],σ')∧Ho σ' b R''∧R''.length=R.length∧(∀ z,gd R'' z=if p+x≤z∧z<p+c then gd R' (z+(q-p)) else if q+x≤z∧z<q+c then gd R' (z-(q-p)) else gd R' z)∧FK b σ σ'
 | n,x,0,σ,R',hl,h,hx,hf=>by omega
 | 0,x,f+1,σ,R',hl,h,hx,hf=>by
   rw[GR,EM]
   refine ⟨σ,R', ?_,h,hl,fun z=>by rw[if_neg (by omega),if_neg (by omega)],FK.refl _⟩
   simp only[decide_eq_false (show ¬ (x:Int)<(c:Int) by omega),cond_false]
 | n+1,x,f+1,σ,R',hl,h,hx,hf=>by
   have w1:Ae ((x:Int)+1)=((x+1:Nat):Int):=Ad (by unfold AV; omega)
   have w2:Ae ((q:Int)+(x:Int))=((q+x:Nat):Int):=Ad (by unfold AV; omega)
   have w3:Ae ((p:Int)+(x:Int))=((p+x:Nat):Int):=Ad (by unfold AV; omega)
   have q1:(0≤((q+x:Nat):Int)∧((q+x:Nat):Int)<((R.length:Nat):Int))=True:=eq_true (by omega)
   have q2:(0≤((p+x:Nat):Int)∧((p+x:Nat):Int)<((R.length:Nat):Int))=True:=eq_true (by omega)
   obtain ⟨l0,l1⟩:=h.ld (x:=q+x) (by omega)
   obtain ⟨l2,l3⟩:=h.ld (x:=p+x) (by omega)
   obtain ⟨σ1,σ2,e1,e2,g2,o2⟩:=h.sw (x:=p+x) (y:=q+x) (by omega) (by omega)
   obtain ⟨σ3,R3,e3,g3,l3',d3,o3⟩:=jC k hln hpq hq n (x+1) f σ2 (sw R' (p+x) (q+x)) (by rw[gM]; exact hl) g2 (by omega) (by omega)
   refine ⟨σ3,R3, ?_,g3,l3',fun z=>?_,o2.trans o3⟩
   ·rw[GR,EM]
    simp only[decide_eq_true (show (x:Int)<(c:Int) by omega),cond_true,w1,w2,w3,q1,q2,if_true,Option.bind_some,Int.toNat_natCast,Nat.zero_add,l0,l1,l2,l3,e1,e2,e3]
   ·rw[d3 z]
    have gs:∀ z,gd (sw R' (p+x) (q+x)) z=if z=q+x then gd R' (p+x) else if z=p+x then gd R' (q+x) else gd R' z:=fun z=>lR _ _ _ _ (by omega) (by omega)
    by_cases c1:p+(x+1)≤z∧z<p+c
    ·rw[if_pos c1,if_pos (by omega),gs,if_neg (by omega),if_neg (by omega)]
    ·rw[if_neg c1]
     by_cases c2:q+(x+1)≤z∧z<q+c
     ·rw[if_pos c2,if_neg (by omega),if_pos (by omega),gs,if_neg (by omega),if_neg (by omega)]
     ·rw[if_neg c2,gs]
      by_cases c3:z=q+x
      ·rw[if_pos c3,if_neg (by omega),if_pos (by omega)]; congr 1; omega
      ·rw[if_neg c3]
       by_cases c4:z=p+x
       ·rw[if_pos c4,if_pos (by omega)]; congr 1; omega
       ·rw[if_neg c4,if_neg (by omega),if_neg (by omega)]
theorem oR (k:Nat) (hk:5000≤k) (hln:R.length≤3000) {p q c:Nat} (hpq:p+c≤q) (hq:q+c≤R.length) (σ:Aa) (R':List (Nat × Nat)) (hl:R'.length=R.length) (h:Ho σ b R') (v:Value):
  ∃ σ' R'',BA (k+1) (some ⟨b,0,none⟩,R.length,R.length) (p:Int) (q:Int) (c:Int) v σ=some (.tuple #[],σ')∧Ho σ' b R''∧R''.length=R.length∧(∀ z,gd R'' z=if p≤z∧z<p+c then gd R' (z+(q-p)) else if q≤z∧z<q+c then gd R' (z-(q-p)) else gd R' z)∧FK b σ σ':=by
 obtain ⟨σ1,R1,e1,g1,l1,d1,o1⟩:=jC k hln hpq hq c 0 k σ R' hl h (by omega) (by omega)
 refine ⟨σ1,R1, ?_,g1,l1,d1,o1⟩
 rw[show ((0:Nat):Int)=0 from rfl] at e1
 rw[MF,Iv]
 simp only[e1,Option.bind_some,if_true]
def kT (R R':List (Nat × Nat)) (s m e:Nat):Prop:=∀ z,gd R' z=if z<s∨e≤z then gd R z else if z<s+(e-m) then gd R (z+(m-s)) else gd R (z-(e-m))
theorem bT (k:Nat) (hk:5000≤k) (hln:R.length≤3000) {m:Nat} (v:Value):∀ (n i j f:Nat) (σ:Aa) (R':List (Nat × Nat)),R'.length=R.length→Ho σ b R'→1≤i→1≤j→i≤m→m+j≤R.length→i+j≤n→n<f →
  ∃ (σ':Aa) (R'':List (Nat × Nat)) (r:Nat),Ce (k+1) f (some ⟨b,0,none⟩) R.length R.length (m:Int) v (i:Int) (j:Int) σ=some (.exit 0,[.int .i64 (r:Int)],σ')∧Ho σ' b R''∧R''.length=R.length∧1≤r∧r≤m∧m+r≤R.length∧(∀ R3,kT R'' R3 (m-r) m (m+r)→kT R' R3 (m-i) m (m+j))∧FK b σ σ'
 | n,i,j,0,σ,R',hl,h,hi,hj,him,hjm,hn,hf=>by omega
 | n,i,j,f+1,σ,R',hl,h,hi,hj,him,hjm,hn,hf=>by
   rw[ME,Iu]
   by_cases q:i=j
   ·subst q
    refine ⟨σ,R',i, ?_,h,hl,hi,him,hjm,fun R3 h3=>h3,FK.refl _⟩
    simp only[bne_self_eq_false,cond_false]
   ·simp only[show ((i:Int) != (j:Int))=true from by simp; omega,cond_true]
    by_cases q2:i>j
    ·have w1:Ae ((m:Int)-(i:Int))=((m-i:Nat):Int):=by rw[Ad (by unfold AV; omega)]; omega
     have w2:Ae ((i:Int)-(j:Int))=((i-j:Nat):Int):=by rw[Ad (by unfold AV; omega)]; omega
     obtain ⟨σ1,R1,e1,g1,l1,d1,o1⟩:=oR k hk hln (p:=m-i) (q:=m) (c:=j) (by omega) (by omega) σ R' hl h v
     obtain ⟨σ2,R2,r,e2,g2,l2,r1,r2,r3,t2,o2⟩:=bT k hk hln v (n-1) (i-j) j f σ1 R1 l1 g1 (by omega) hj (by omega) hjm (by omega) (by omega)
     refine ⟨σ2,R2,r, ?_,g2,l2,r1,r2,r3,fun R3 h3 z=>?_,o1.trans o2⟩
     ·simp only[decide_eq_true (show (i:Int)>(j:Int) by omega),cond_true,w1,w2,e1,Option.bind_some,KE,if_true,Gi,e2]
     ·rw[t2 R3 h3 z]
      by_cases c1:z<m-i∨m+j≤z
      ·rw[if_pos (by omega),if_pos c1,d1,if_neg (by omega),if_neg (by omega)]
      ·rw[if_neg c1]
       by_cases c2:z<m-i+(m+j-m)
       ·rw[if_pos (by omega),if_pos c2,d1,if_pos (by omega)]
       ·rw[if_neg c2,if_neg (by omega)]
        by_cases c3:z<m-(i-j)+(m+j-m)
        ·rw[if_pos c3,d1,if_neg (by omega),if_pos (by omega)]; congr 1; omega
        ·rw[if_neg c3,d1,if_neg (by omega),if_neg (by omega)]
    ·have w1:Ae ((m:Int)-(i:Int))=((m-i:Nat):Int):=by rw[Ad (by unfold AV; omega)]; omega
     have w2:Ae ((j:Int)-(i:Int))=((j-i:Nat):Int):=by rw[Ad (by unfold AV; omega)]; omega
     have w3:Ae (Ae ((m:Int)+(j:Int))-(i:Int))=((m+j-i:Nat):Int):=by rw[Ad (show AV ((m:Int)+(j:Int)) by unfold AV; omega),Ad (by unfold AV; omega)]; omega
     obtain ⟨σ1,R1,e1,g1,l1,d1,o1⟩:=oR k hk hln (p:=m-i) (q:=m+j-i) (c:=i) (by omega) (by omega) σ R' hl h v
     obtain ⟨σ2,R2,r,e2,g2,l2,r1,r2,r3,t2,o2⟩:=bT k hk hln v (n-1) i (j-i) f σ1 R1 l1 g1 hi (by omega) him (by omega) (by omega) (by omega)
     refine ⟨σ2,R2,r, ?_,g2,l2,r1,r2,r3,fun R3 h3 z=>?_,o1.trans o2⟩
     ·simp only[decide_eq_false (show ¬ (i:Int)>(j:Int) by omega),cond_false,w1,w2,w3,e1,Option.bind_some,KE,if_true,Gi,e2]
     ·rw[t2 R3 h3 z]
      by_cases c1:z<m-i∨m+j≤z
      ·rw[if_pos (by omega),if_pos c1,d1,if_neg (by omega),if_neg (by omega)]
      ·rw[if_neg c1]
       by_cases c2:z<m-i+(m+j-m)
       ·rw[if_pos c2]
        by_cases c3:z<m-i+(m+(j-i)-m)
        ·rw[if_neg (by omega),if_pos c3,d1]
         by_cases c4:z+(m-(m-i))<m+j-i
         ·rw[if_neg (by omega),if_neg (by omega)]
         ·rw[if_neg (by omega),if_pos (by omega)]; congr 1; omega
        ·by_cases c5:m+(j-i)≤z
         ·exfalso; omega
         ·rw[if_neg (by omega),if_neg c3,d1,if_pos (by omega)]; congr 1; omega
       ·rw[if_neg c2]
        by_cases c3:m+(j-i)≤z
        ·rw[if_pos (by omega),d1,if_neg (by omega),if_pos (by omega)]; congr 1; omega
        ·exfalso; omega
theorem rC (k:Nat) (hk:10000≤k) (hln:R.length≤3000) {s m e:Nat} (hsm:s<m) (hme:m<e) (he:e≤R.length) (σ:Aa) (R':List (Nat × Nat)) (hl:R'.length=R.length) (h:Ho σ b R') (v:Value):
  ∃ σ' R'',Cz (k+2) (some ⟨b,0,none⟩,R.length,R.length) (s:Int) (m:Int) (e:Int) v σ=some (.tuple #[],σ')∧Ho σ' b R''∧R''.length=R.length∧kT R' R'' s m e∧FK b σ σ':=by
 have w1:Ae ((m:Int)-(s:Int))=((m-s:Nat):Int):=by rw[Ad (by unfold AV; omega)]; omega
 have w2:Ae ((e:Int)-(m:Int))=((e-m:Nat):Int):=by rw[Ad (by unfold AV; omega)]; omega
 obtain ⟨σ1,R1,r,e1,g1,l1,r1,r2,r3,t1,o1⟩:=bT k (by omega) hln (m:=m) v (e-s) (m-s) (e-m) (k+1) σ R' hl h (by omega) (by omega) (by omega) (by omega) (by omega) (by omega)
 have w3:Ae ((m:Int)-(r:Int))=((m-r:Nat):Int):=by rw[Ad (by unfold AV; omega)]; omega
 obtain ⟨σ2,R2,e2,g2,l2,d2,o2⟩:=oR k (by omega) hln (p:=m-r) (q:=m) (c:=r) (by omega) (by omega) σ1 R1 l1 g1 v
 refine ⟨σ2,R2, ?_,g2,l2, ?_,o1.trans o2⟩
 ·rw[Ok,JI]
  simp only[w1,w2,e1,Option.bind_some,if_true,DQ,w3,e2,KE]
 ·have:=t1 R2 (fun z=>by
   rw[d2 z]
   by_cases c1:z<m-r∨m+r≤z
   ·rw[if_pos c1,if_neg (by omega),if_neg (by omega)]
   ·rw[if_neg c1]
    by_cases c2:z<m
    ·rw[if_pos (by omega),if_pos (by omega)]
    ·rw[if_neg (by omega),if_pos (by omega),if_neg (by omega)]; congr 1; omega)
  rw[show m-(m-s)=s from by omega,show m+(e-m)=e from by omega] at this
  exact this
end Go.Proofs.YtlaplcglpnlieaaGreat
end
section
namespace Go.Proofs.YtlaplcglpnlieaaGreat
open Go Go.AX
noncomputable local instance zR:Bb:=Az
local instance yS:Kn:=⟨true⟩
variable {σ:Aa} {b:Nat} {R:List (Nat × Nat)}
theorem dH (x y:Nat) (h:x+y≤100000):Ae ((u64 (Ae ((x:Int)+(y:Int)))).fdiv (2 ^ (min (1:Int).toNat 64)))=(((x+y)/2:Nat):Int):=by
 rw[Ad (show AV ((x:Int)+(y:Int)) by unfold AV; omega)]
 have e1:u64 ((x:Int)+(y:Int))=((x+y:Nat):Int):=by
  unfold u64
  have:=IntKind.wrap_u64 ((x:Int)+(y:Int))
  rw[this]; omega
 rw[e1,show (2:Int) ^ (min (1:Int).toNat 64)=2 from by decide,show (((x+y:Nat):Int)).fdiv 2=(((x+y)/2:Nat):Int) from by rw[Int.fdiv_eq_ediv_of_nonneg _ (by omega)]; omega]
 exact Ad (by unfold AV; omega)
theorem pJ (e g:Nat × Nat):(!decide ((e.2:Int)-(g.2:Int)<0))=decide (¬ e.2<g.2):=by
 rw[nR]
 by_cases q:e.2<g.2
 ·rw[decide_eq_true q,decide_eq_false (fun h=>h q)]; rfl
 ·rw[decide_eq_false q,decide_eq_true q]; rfl
theorem UO.le {lo hi:Nat} (h:UO R lo hi) {x y:Nat} (h1:lo≤x) (h2:x≤y) (h3:y<hi):(gd R x).2≤(gd R y).2:=by
 rcases Nat.eq_or_lt_of_le h2 with rfl | h2
 ·exact Nat.le_refl _
 ·have:=h x y h1 h2 h3
  unfold aa at this; omega
theorem gE (k:Nat) (hln:R.length≤3000) {a lo hi:Nat} (ha:a<R.length) (hhi:hi≤R.length) {R':List (Nat × Nat)} (hl:R'.length=R.length) (hS:gZ R') (mono:∀ x y,lo≤x→x<y→y<hi→(gd R' y).2<(gd R' a).2→(gd R' x).2<(gd R' a).2):∀ (n i j f:Nat) (σ:Aa),Ho σ b R'→lo≤i→i≤j→j≤hi→j≤i+n→n<f→(∀ x,lo≤x→x<i→(gd R' x).2<(gd R' a).2)→(∀ x,j≤x→x<hi→¬ (gd R' x).2<(gd R' a).2) →
  ∃ (τ:Aa) (r:Nat),BO (k+1) f (some ⟨b,0,none⟩) R.length R.length (a:Int) Sd (i:Int) (j:Int) σ=some (.exit 0,[.int .i64 (r:Int)],σ++τ)∧lo≤r∧r≤hi∧(∀ x,lo≤x→x<r→(gd R' x).2<(gd R' a).2)∧(∀ x,r≤x→x<hi→¬ (gd R' x).2<(gd R' a).2)
 | n,i,j,0,σ,h,h1,h2,h3,hn,hf,p1,p2=>by omega
 | n,i,j,f+1,σ,h,h1,h2,h3,hn,hf,p1,p2=>by
   rw[LP,HI]
   by_cases q:i<j
   ·have hh:=dH i j (by omega)
    obtain ⟨c,hc⟩:∃ c,(i+j)/2=c:=⟨_,rfl⟩
    rw[hc] at hh
    have q1:(0≤(c:Int)∧(c:Int)<((R.length:Nat):Int))=True:=eq_true (by omega)
    have q2:(0≤(a:Int)∧(a:Int)<((R.length:Nat):Int))=True:=eq_true (by omega)
    obtain ⟨l0,l1⟩:=h.ld (x:=c) (by omega)
    obtain ⟨l2,l3⟩:=h.ld (x:=a) (by omega)
    obtain ⟨τ,ec⟩:=jW k (gd R' c) (gd R' a) (hS _).2 (hS _).2 σ
    have w1:Ae ((c:Int)+1)=((c+1:Nat):Int):=Ad (by unfold AV; omega)
    simp only[decide_eq_true (show (i:Int)<(j:Int) by omega),cond_true,hh,q1,q2,if_true,if_neg (show ¬ (1:Int)<0 by decide),Option.bind_some,Int.toNat_natCast,Nat.zero_add,l0,l1,l2,l3,ec,Am,nR,w1]
    by_cases q3:(gd R' c).2<(gd R' a).2
    ·obtain ⟨τ2,r,e2,r1,r2,r3,r4⟩:=gE k hln ha hhi hl hS mono (n-1) (c+1) j f (σ++τ) (h.app τ) (by omega) (by omega) h3 (by omega) (by omega) (fun x x1 x2=>by
      by_cases q4:x=c
      ·rw[q4]; exact q3
      ·exact mono x c x1 (by omega) (by omega) q3) p2
     refine ⟨τ++τ2,r, ?_,r1,r2,r3,r4⟩
     simp only[decide_eq_true q3,cond_true,Option.bind_some,if_true,Gi,e2,List.append_assoc]
    ·obtain ⟨τ2,r,e2,r1,r2,r3,r4⟩:=gE k hln ha hhi hl hS mono (n-1) i c f (σ++τ) (h.app τ) h1 (by omega) (by omega) (by omega) (by omega) p1 (fun x x1 x2 hh=>by
      by_cases q4:x=c
      ·rw[q4] at hh; exact q3 hh
      ·exact q3 (mono c x (by omega) (by omega) x2 hh))
     refine ⟨τ++τ2,r, ?_,r1,r2,r3,r4⟩
     simp only[decide_eq_false q3,cond_false,Option.bind_some,if_true,Gi,e2,List.append_assoc]
   ·obtain rfl:i=j:=by omega
    refine ⟨[],i, ?_,h1,h3,p1,p2⟩
    simp only[decide_eq_false (Int.lt_irrefl _),cond_false,List.append_nil]
theorem gF (k:Nat) (hln:R.length≤3000) {a lo hi:Nat} (ha:a<R.length) (hhi:hi≤R.length) {R':List (Nat × Nat)} (hl:R'.length=R.length) (hS:gZ R') (mono:∀ x y,lo≤x→x<y→y<hi→¬ (gd R' a).2<(gd R' y).2→¬ (gd R' a).2<(gd R' x).2):∀ (n i j f:Nat) (σ:Aa),Ho σ b R'→lo≤i→i≤j→j≤hi→j≤i+n→n<f→(∀ x,lo≤x→x<i→¬ (gd R' a).2<(gd R' x).2)→(∀ x,j≤x→x<hi→(gd R' a).2<(gd R' x).2) →
  ∃ (τ:Aa) (r:Nat),BQ (k+1) f (some ⟨b,0,none⟩) R.length R.length (a:Int) Sd (i:Int) (j:Int) σ=some (.exit 4,[.int .i64 (r:Int)],σ++τ)∧lo≤r∧r≤hi∧(∀ x,lo≤x→x<r→¬ (gd R' a).2<(gd R' x).2)∧(∀ x,r≤x→x<hi→(gd R' a).2<(gd R' x).2)
 | n,i,j,0,σ,h,h1,h2,h3,hn,hf,p1,p2=>by omega
 | n,i,j,f+1,σ,h,h1,h2,h3,hn,hf,p1,p2=>by
   rw[LQ,HJ]
   by_cases q:i<j
   ·have hh:=dH i j (by omega)
    obtain ⟨c,hc⟩:∃ c,(i+j)/2=c:=⟨_,rfl⟩
    rw[hc] at hh
    have q1:(0≤(c:Int)∧(c:Int)<((R.length:Nat):Int))=True:=eq_true (by omega)
    have q2:(0≤(a:Int)∧(a:Int)<((R.length:Nat):Int))=True:=eq_true (by omega)
    obtain ⟨l0,l1⟩:=h.ld (x:=c) (by omega)
    obtain ⟨l2,l3⟩:=h.ld (x:=a) (by omega)
    obtain ⟨τ,ec⟩:=jW k (gd R' a) (gd R' c) (hS _).2 (hS _).2 σ
    have w1:Ae ((c:Int)+1)=((c+1:Nat):Int):=Ad (by unfold AV; omega)
    simp only[decide_eq_true (show (i:Int)<(j:Int) by omega),cond_true,hh,q1,q2,if_true,if_neg (show ¬ (1:Int)<0 by decide),Option.bind_some,Int.toNat_natCast,Nat.zero_add,l0,l1,l2,l3,ec,Am,pJ,w1]
    by_cases q3:¬ (gd R' a).2<(gd R' c).2
    ·obtain ⟨τ2,r,e2,r1,r2,r3,r4⟩:=gF k hln ha hhi hl hS mono (n-1) (c+1) j f (σ++τ) (h.app τ) (by omega) (by omega) h3 (by omega) (by omega) (fun x x1 x2=>by
      by_cases q4:x=c
      ·rw[q4]; exact q3
      ·exact mono x c x1 (by omega) (by omega) q3) p2
     refine ⟨τ++τ2,r, ?_,r1,r2,r3,r4⟩
     simp only[decide_eq_true q3,cond_true,Option.bind_some,if_true,Gi,e2,List.append_assoc]
    ·obtain ⟨τ2,r,e2,r1,r2,r3,r4⟩:=gF k hln ha hhi hl hS mono (n-1) i c f (σ++τ) (h.app τ) h1 (by omega) (by omega) (by omega) (by omega) p1 (fun x x1 x2=>by
      by_cases q4:x=c
      ·rw[q4]; exact Decidable.not_not.1 q3
      ·exact Decidable.not_not.1 fun hh=>q3 (mono c x (by omega) (by omega) x2 hh))
     refine ⟨τ++τ2,r, ?_,r1,r2,r3,r4⟩
     simp only[decide_eq_false q3,cond_false,Option.bind_some,if_true,Gi,e2,List.append_assoc]
   ·obtain rfl:i=j:=by omega
    refine ⟨[],i, ?_,h1,h3,p1,p2⟩
    simp only[decide_eq_false (Int.lt_irrefl _),cond_false,List.append_nil]
theorem gG (k:Nat) (hln:R.length≤3000) {p lo hi:Nat} (hp:∀ c,lo≤c→c<hi→c≤p∧p-c<R.length) (hp2:p≤10000) (hhi:hi≤R.length) {R':List (Nat × Nat)} (hl:R'.length=R.length) (hS:gZ R') (mono:∀ x y,lo≤x→x<y→y<hi→¬ (gd R' (p-y)).2<(gd R' y).2→¬ (gd R' (p-x)).2<(gd R' x).2):∀ (n i j f:Nat) (σ:Aa),Ho σ b R'→lo≤i→i≤j→j≤hi→j≤i+n→n<f→(∀ x,lo≤x→x<i→¬ (gd R' (p-x)).2<(gd R' x).2)→(∀ x,j≤x→x<hi→(gd R' (p-x)).2<(gd R' x).2) →
  ∃ (τ:Aa) (r:Nat),BS (k+1) f (some ⟨b,0,none⟩) R.length R.length Sd (p:Int) (i:Int) (j:Int) σ=some (.exit 8,[.int .i64 (r:Int)],σ++τ)∧lo≤r∧r≤hi∧(∀ x,lo≤x→x<r→¬ (gd R' (p-x)).2<(gd R' x).2)∧(∀ x,r≤x→x<hi→(gd R' (p-x)).2<(gd R' x).2)
 | n,i,j,0,σ,h,h1,h2,h3,hn,hf,p1,p2=>by omega
 | n,i,j,f+1,σ,h,h1,h2,h3,hn,hf,p1,p2=>by
   rw[LR,HK]
   by_cases q:i<j
   ·have hh:=dH i j (by omega)
    obtain ⟨c,hc⟩:∃ c,(i+j)/2=c:=⟨_,rfl⟩
    rw[hc] at hh
    obtain ⟨hp3,hp4⟩:=hp c (by omega) (by omega)
    have w0:Ae ((p:Int)-(c:Int))=((p-c:Nat):Int):=by rw[Ad (by unfold AV; omega)]; omega
    have q1:(0≤(c:Int)∧(c:Int)<((R.length:Nat):Int))=True:=eq_true (by omega)
    have q2:(0≤((p-c:Nat):Int)∧((p-c:Nat):Int)<((R.length:Nat):Int))=True:=eq_true (by omega)
    obtain ⟨l0,l1⟩:=h.ld (x:=c) (by omega)
    obtain ⟨l2,l3⟩:=h.ld (x:=p-c) (by omega)
    obtain ⟨τ,ec⟩:=jW k (gd R' (p-c)) (gd R' c) (hS _).2 (hS _).2 σ
    have w1:Ae ((c:Int)+1)=((c+1:Nat):Int):=Ad (by unfold AV; omega)
    simp only[decide_eq_true (show (i:Int)<(j:Int) by omega),cond_true,hh,w0,q1,q2,if_true,if_neg (show ¬ (1:Int)<0 by decide),Option.bind_some,Int.toNat_natCast,Nat.zero_add,l0,l1,l2,l3,ec,Am,pJ,w1]
    by_cases q3:¬ (gd R' (p-c)).2<(gd R' c).2
    ·obtain ⟨τ2,r,e2,r1,r2,r3,r4⟩:=gG k hln hp hp2 hhi hl hS mono (n-1) (c+1) j f (σ++τ) (h.app τ) (by omega) (by omega) h3 (by omega) (by omega) (fun x x1 x2=>by
      by_cases q4:x=c
      ·rw[q4]; exact q3
      ·exact mono x c x1 (by omega) (by omega) q3) p2
     refine ⟨τ++τ2,r, ?_,r1,r2,r3,r4⟩
     simp only[decide_eq_true q3,cond_true,Option.bind_some,if_true,Gi,e2,List.append_assoc]
    ·obtain ⟨τ2,r,e2,r1,r2,r3,r4⟩:=gG k hln hp hp2 hhi hl hS mono (n-1) i c f (σ++τ) (h.app τ) h1 (by omega) (by omega) (by omega) (by omega) p1 (fun x x1 x2=>by
      by_cases q4:x=c
      ·rw[q4]; exact Decidable.not_not.1 q3
      ·exact Decidable.not_not.1 fun hh=>q3 (mono c x (by omega) (by omega) x2 hh))
     refine ⟨τ++τ2,r, ?_,r1,r2,r3,r4⟩
     simp only[decide_eq_false q3,cond_false,Option.bind_some,if_true,Gi,e2,List.append_assoc]
   ·obtain rfl:i=j:=by omega
    refine ⟨[],i, ?_,h1,h3,p1,p2⟩
    simp only[decide_eq_false (Int.lt_irrefl _),cond_false,List.append_nil]
theorem mS (k:Nat) (hln:R.length≤3000) {e:Nat} (he:e≤R.length):∀ (n x f:Nat) (σ:Aa) (R':List (Nat × Nat)),R'.length=R.length→Ho σ b R'→x+1+n=e→n<f →
  ∃ σ' R'',BP k f (some ⟨b,0,none⟩) R.length R.length (e:Int) (x:Int) σ=some (.exit 2,[],σ')∧Ho σ' b R''∧R''.length=R.length∧kT R' R'' x (x+1) e∧FK b σ σ'
 | n,x,0,σ,R',hl,h,hx,hf=>by omega
 | 0,x,f+1,σ,R',hl,h,hx,hf=>by
   have w1:Ae ((e:Int)-1)=(x:Int):=by rw[Ad (by unfold AV; omega)]; omega
   rw[Hc,Fb]
   refine ⟨σ,R',by simp only[w1,decide_eq_false (Int.lt_irrefl _),cond_false],h,hl,fun z=>?_,FK.refl _⟩
   split
   ·rfl
   ·rw[if_neg (by omega)]; congr 1; omega
 | n+1,x,f+1,σ,R',hl,h,hx,hf=>by
   have w1:Ae ((e:Int)-1)=(e:Int)-1:=Ad (by unfold AV; omega)
   have w2:Ae ((x:Int)+1)=((x+1:Nat):Int):=Ad (by unfold AV; omega)
   have q1:(0≤((x+1:Nat):Int)∧((x+1:Nat):Int)<((R.length:Nat):Int))=True:=eq_true (by omega)
   have q2:(0≤(x:Int)∧(x:Int)<((R.length:Nat):Int))=True:=eq_true (by omega)
   obtain ⟨l0,l1⟩:=h.ld (x:=x+1) (by omega)
   obtain ⟨l2,l3⟩:=h.ld (x:=x) (by omega)
   obtain ⟨σ1,σ2,e1,e2,g2,o2⟩:=h.sw (x:=x) (y:=x+1) (by omega) (by omega)
   obtain ⟨σ3,R3,e3,g3,l3',d3,o3⟩:=mS k hln he n (x+1) f σ2 (sw R' x (x+1)) (by rw[gM]; exact hl) g2 (by omega) (by omega)
   refine ⟨σ3,R3, ?_,g3,l3',fun z=>?_,o2.trans o3⟩
   ·rw[Hc,Fb]
    simp only[w1,decide_eq_true (show (x:Int)<(e:Int)-1 by omega),cond_true,w2,q1,q2,if_true,Option.bind_some,Int.toNat_natCast,Nat.zero_add,l0,l1,l2,l3,e1,e2,e3]
   ·have gs:∀ z,gd (sw R' x (x+1)) z=if z=x+1 then gd R' x else if z=x then gd R' (x+1) else gd R' z:=fun z=>lR _ _ _ _ (by omega) (by omega)
    rw[d3 z]
    by_cases c1:z<x∨e≤z
    ·rw[if_pos c1,if_pos (by omega),gs,if_neg (by omega),if_neg (by omega)]
    ·rw[if_neg c1]
     by_cases c2:z=x
     ·rw[if_pos (by omega),if_pos (by omega),gs,if_neg (by omega),if_pos c2]; congr 1; omega
     ·rw[if_neg (by omega)]
      by_cases c3:z<x+1+(e-(x+1+1))
      ·rw[if_pos c3,if_pos (by omega),gs,if_neg (by omega),if_neg (by omega)]; congr 1; omega
      ·rw[if_neg c3,if_neg (by omega),gs,if_pos (by omega)]; congr 1; omega
theorem mT (k:Nat) (hln:R.length≤3000) {i:Nat}:∀ (n x f:Nat) (σ:Aa) (R':List (Nat × Nat)),R'.length=R.length→Ho σ b R'→x<R.length→i+n=x→n<f →
  ∃ σ' R'',BR k f (some ⟨b,0,none⟩) R.length R.length (i:Int) (x:Int) σ=some (.exit 6,[],σ')∧Ho σ' b R''∧R''.length=R.length∧kT R' R'' i x (x+1)∧FK b σ σ'
 | n,x,0,σ,R',hl,h,hxl,hx,hf=>by omega
 | 0,x,f+1,σ,R',hl,h,hxl,hx,hf=>by
   rw[Hd,Fc]
   refine ⟨σ,R',by simp only[decide_eq_false (show ¬ (x:Int)>(i:Int) by omega),cond_false],h,hl,fun z=>?_,FK.refl _⟩
   split
   ·rfl
   ·rw[if_pos (by omega)]; congr 1; omega
 | n+1,x,f+1,σ,R',hl,h,hxl,hx,hf=>by
   obtain ⟨p,rfl⟩:∃ p,x=p+1:=⟨x-1,by omega⟩
   have w2:Ae (((p+1:Nat):Int)-1)=(p:Int):=by rw[Ad (by unfold AV; omega)]; omega
   have q1:(0≤((p+1:Nat):Int)∧((p+1:Nat):Int)<((R.length:Nat):Int))=True:=eq_true (by omega)
   have q2:(0≤(p:Int)∧(p:Int)<((R.length:Nat):Int))=True:=eq_true (by omega)
   obtain ⟨l0,l1⟩:=h.ld (x:=p+1) (by omega)
   obtain ⟨l2,l3⟩:=h.ld (x:=p) (by omega)
   obtain ⟨σ1,σ2,e1,e2,g2,o2⟩:=h.sw (x:=p+1) (y:=p) (by omega) (by omega)
   obtain ⟨σ3,R3,e3,g3,l3',d3,o3⟩:=mT k (i:=i) hln n p f σ2 (sw R' (p+1) p) (by rw[gM]; exact hl) g2 (by omega) (by omega) (by omega)
   refine ⟨σ3,R3, ?_,g3,l3',fun z=>?_,o2.trans o3⟩
   ·rw[Hd,Fc]
    simp only[decide_eq_true (show ((p+1:Nat):Int)>(i:Int) by omega),cond_true,w2,q1,q2,if_true,Option.bind_some,Int.toNat_natCast,Nat.zero_add,l0,l1,l2,l3,e1,e2,e3]
   ·have gs:∀ z,gd (sw R' (p+1) p) z=if z=p then gd R' (p+1) else if z=p+1 then gd R' p else gd R' z:=fun z=>lR _ _ _ _ (by omega) (by omega)
    rw[d3 z]
    by_cases c1:z<i∨p+1+1≤z
    ·rw[if_pos c1,if_pos (by omega),gs,if_neg (by omega),if_neg (by omega)]
    ·rw[if_neg c1]
     by_cases c2:z<i+(p+1+1-(p+1))
     ·rw[if_pos c2]
      by_cases c3:z<i∨p+1≤z
      ·exfalso; omega
      ·rw[if_neg c3,if_pos (by omega),gs,if_pos (by omega)]; congr 1; omega
     ·rw[if_neg c2]
      by_cases c3:p+1≤z
      ·rw[if_pos (by omega),gs,if_neg (by omega),if_pos (by omega)]; congr 1; omega
      ·rw[if_neg (by omega),if_neg (by omega),gs,if_neg (by omega),if_neg (by omega)]; congr 1; omega
def tP (R:List (Nat × Nat)) (a m e:Nat):Prop:=∀ x y,a≤x→x<m→m≤y→y<e→(gd R x).1<(gd R y).1
theorem kT.same {R':List (Nat × Nat)} {s m e a c:Nat} (h:kT R R' s m e) (hsm:s≤m) (hme:m≤e) (ha:a≤s) (hc:e≤c):Qc R R' a c:=by
 intro g
 constructor
 ·rintro ⟨x,a1,a2,rfl⟩
  rw[h x]
  split
  ·exact ⟨x,a1,a2,rfl⟩
  ·split
   ·exact ⟨x+(m-s),by omega,by omega,rfl⟩
   ·exact ⟨x-(e-m),by omega,by omega,rfl⟩
 ·rintro ⟨x,a1,a2,rfl⟩
  by_cases q:x<s∨e≤x
  ·exact ⟨x,a1,a2,by rw[h x,if_pos q]⟩
  ·by_cases q2:x<m
   ·exact ⟨x+(e-m),by omega,by omega,by rw[h _,if_neg (by omega),if_neg (by omega)]; congr 1; omega⟩
   ·exact ⟨x-(m-s),by omega,by omega,by rw[h _,if_neg (by omega),if_pos (by omega)]; congr 1; omega⟩
theorem kT.out {R':List (Nat × Nat)} {s m e a c:Nat} (h:kT R R' s m e) (ha:a≤s) (hc:e≤c):Ud R R' a c:=fun x hx=>by rw[h x,if_pos (by omega)]
theorem kT.xm {s m e:Nat} (h:s=m∨e=m):kT R R s m e:=fun z=>by
 split
 ·rfl
 ·split
  ·congr 1; omega
  ·congr 1; omega
theorem Qc.trans {R1 R2 R3:List (Nat × Nat)} {a c:Nat} (h:Qc R1 R2 a c) (g:Qc R2 R3 a c):Qc R1 R3 a c:=fun e=>(g e).trans (h e)
theorem Ud.trans {R1 R2 R3:List (Nat × Nat)} {a c:Nat} (h:Ud R1 R2 a c) (g:Ud R2 R3 a c):Ud R1 R3 a c:=fun x hx=>(g x hx).trans (h x hx)
theorem Qc.wide {R':List (Nat × Nat)} {lo hi a c:Nat} (h:Qc R R' lo hi) (o:Ud R R' lo hi) (ha:a≤lo) (hc:hi≤c):Qc R R' a c:=by
 intro g
 constructor
 ·rintro ⟨x,a1,a2,rfl⟩
  by_cases q:lo≤x∧x<hi
  ·obtain ⟨y,y1,y2,hy⟩:=(h (gd R' x)).1 ⟨x,q.1,q.2,rfl⟩
   exact ⟨y,by omega,by omega,hy⟩
  ·exact ⟨x,a1,a2,(o x (by omega)).symm⟩
 ·rintro ⟨x,a1,a2,rfl⟩
  by_cases q:lo≤x∧x<hi
  ·obtain ⟨y,y1,y2,hy⟩:=(h (gd R x)).2 ⟨x,q.1,q.2,rfl⟩
   exact ⟨y,by omega,by omega,hy⟩
  ·exact ⟨x,a1,a2,o x (by omega)⟩
theorem Ud.wide {R':List (Nat × Nat)} {lo hi a c:Nat} (o:Ud R R' lo hi) (ha:a≤lo) (hc:hi≤c):Ud R R' a c:=fun x hx=>o x (by omega)
theorem UO.join {a m c:Nat} (h1:UO R a m) (h2:UO R m c) (h3:∀ x y,a≤x→x<m→m≤y→y<c→aa (gd R x) (gd R y)):UO R a c:=by
 intro x y a1 a2 a3
 by_cases q:y<m
 ·exact h1 x y a1 a2 q
 ·by_cases q2:m≤x
  ·exact h2 x y q2 a2 a3
  ·exact h3 x y a1 (by omega) (by omega) a3
theorem vV {R':List (Nat × Nat)} {a r c:Nat} (hs:UO R (a+1) c) (hr1:a+1≤r) (hr2:r≤c) (hrot:kT R R' a (a+1) r) (p1:∀ x,a+1≤x→x<r→(gd R x).2<(gd R a).2) (p2:∀ x,r≤x→x<c→¬ (gd R x).2<(gd R a).2) (hc:tP R a (a+1) c):UO R' a c:=by
 have key:∀ x,r≤x→x<c→aa (gd R a) (gd R x):=fun x h1 h2=>by
  have:=p2 x h1 h2
  have:=hc a x (Nat.le_refl _) (by omega) (by omega) h2
  unfold aa; omega
 intro x y a1 a2 a3
 rw[hrot x,hrot y]
 by_cases c1:r≤y
 ·rw[if_pos (show y<a∨r≤y from .inr c1)]
  by_cases c2:r≤x
  ·rw[if_pos (show x<a∨r≤x from .inr c2)]; exact hs x y (by omega) a2 a3
  ·rw[if_neg (by omega)]
   by_cases c3:x<a+(r-(a+1))
   ·rw[if_pos c3]; exact hs _ y (by omega) (by omega) a3
   ·rw[if_neg c3,show x-(r-(a+1))=a from by omega]; exact key y c1 a3
 ·rw[if_neg (show ¬ (x<a∨r≤x) by omega),if_neg (show ¬ (y<a∨r≤y) by omega),if_pos (show x<a+(r-(a+1)) by omega)]
  by_cases c3:y<a+(r-(a+1))
  ·rw[if_pos c3]; exact hs _ _ (by omega) (by omega) (by omega)
  ·rw[if_neg c3,show y-(r-(a+1))=a from by omega]; exact .inl (p1 _ (by omega) (by omega))
theorem vW {R':List (Nat × Nat)} {a r m:Nat} (hs:UO R a m) (hr1:a≤r) (hr2:r≤m) (hrot:kT R R' r m (m+1)) (p1:∀ x,a≤x→x<r→¬ (gd R m).2<(gd R x).2) (p2:∀ x,r≤x→x<m→(gd R m).2<(gd R x).2) (hc:tP R a m (m+1)):UO R' a (m+1):=by
 have key:∀ x,a≤x→x<r→aa (gd R x) (gd R m):=fun x h1 h2=>by
  have:=p1 x h1 h2
  have:=hc x m h1 (by omega) (Nat.le_refl _) (by omega)
  unfold aa; omega
 intro x y a1 a2 a3
 rw[hrot x,hrot y]
 by_cases c1:y<r
 ·rw[if_pos (by omega),if_pos (by omega)]; exact hs x y a1 a2 (by omega)
 ·rw[if_neg (show ¬ (y<r∨m+1≤y) by omega)]
  by_cases c2:x<r
  ·rw[if_pos (by omega)]
   by_cases c3:y<r+(m+1-m)
   ·rw[if_pos c3,show y+(m-r)=m from by omega]; exact key x a1 c2
   ·rw[if_neg c3]; exact hs x _ a1 (by omega) (by omega)
  ·rw[if_neg (show ¬ (x<r∨m+1≤x) by omega),if_neg (show ¬ y<r+(m+1-m) by omega)]
   by_cases c3:x<r+(m+1-m)
   ·rw[if_pos c3,show x+(m-r)=m from by omega]; exact .inl (p2 _ (by omega) (by omega))
   ·rw[if_neg c3]; exact hs _ _ (by omega) (by omega) (by omega)
theorem vX {R':List (Nat × Nat)} {a s m e c mid:Nat} (h1:UO R a m) (h2:UO R m c) (hc:tP R a m c) (has:a≤s) (hsm:s≤m) (hme:m≤e) (hec:e≤c) (hmid:mid=s+(e-m)) (hrot:kT R R' s m e)
  (p1:a<s→e<c→aa (gd R (s-1)) (gd R e)) (p2:s<m→m<e→aa (gd R (e-1)) (gd R s)):
  UO R' a s∧UO R' s mid∧tP R' a s mid∧UO R' mid e∧UO R' e c∧tP R' mid e c ∧ ∀ x y,a≤x→x<mid→mid≤y→y<c→aa (gd R' x) (gd R' y):=by
 have r1:∀ x,x<s→gd R' x=gd R x:=fun x hx=>by rw[hrot x,if_pos (.inl hx)]
 have r2:∀ x,s≤x→x<mid→gd R' x=gd R (x+(m-s)):=fun x h h'=>by rw[hrot x,if_neg (by omega),if_pos (by omega)]
 have r3:∀ x,mid≤x→x<e→gd R' x=gd R (x-(e-m)):=fun x h h'=>by rw[hrot x,if_neg (by omega),if_neg (by omega)]
 have r4:∀ x,e≤x→gd R' x=gd R x:=fun x hx=>by rw[hrot x,if_pos (.inr hx)]
 have k1:∀ x y,a≤x→x<s→e≤y→y<c→aa (gd R x) (gd R y):=fun x y x1 x2 y1 y2=>by
  have:=p1 (by omega) (by omega)
  have u1:aa (gd R x) (gd R e):=by
   by_cases q:x=s-1
   ·rw[q]; exact this
   ·exact (h1 x (s-1) x1 (by omega) (by omega)).trans this
  by_cases q:y=e
  ·rw[q]; exact u1
  ·exact u1.trans (h2 e y (by omega) (by omega) y2)
 have k2:∀ x y,m≤x→x<e→s≤y→y<m→aa (gd R x) (gd R y):=fun x y x1 x2 y1 y2=>by
  have:=p2 (by omega) (by omega)
  have u1:aa (gd R x) (gd R s):=by
   by_cases q:x=e-1
   ·rw[q]; exact this
   ·exact (h2 x (e-1) x1 (by omega) (by omega)).trans this
  by_cases q:y=s
  ·rw[q]; exact u1
  ·exact u1.trans (h1 s y has (by omega) y2)
 refine ⟨fun x y a1 a2 a3=>?_,fun x y a1 a2 a3=>?_,fun x y a1 a2 a3 a4=>?_,fun x y a1 a2 a3=>?_,fun x y a1 a2 a3=>?_,fun x y a1 a2 a3 a4=>?_,fun x y a1 a2 a3 a4=>?_⟩
 ·rw[r1 x (by omega),r1 y a3]; exact h1 x y a1 a2 (by omega)
 ·rw[r2 x a1 (by omega),r2 y (by omega) a3]; exact h2 _ _ (by omega) (by omega) (by omega)
 ·rw[r1 x a2,r2 y a3 a4]; exact hc x _ a1 (by omega) (by omega) (by omega)
 ·rw[r3 x a1 (by omega),r3 y (by omega) a3]; exact h1 _ _ (by omega) (by omega) (by omega)
 ·rw[r4 x a1,r4 y (by omega)]; exact h2 _ _ (by omega) a2 a3
 ·rw[r3 x a1 a2,r4 y a3]; exact hc _ y (by omega) (by omega) (by omega) a4
 ·by_cases q1:x<s
  ·rw[r1 x q1]
   by_cases q2:y<e
   ·rw[r3 y a3 q2]; exact h1 x _ a1 (by omega) (by omega)
   ·rw[r4 y (by omega)]; exact k1 x y a1 q1 (by omega) a4
  ·rw[r2 x (by omega) a2]
   by_cases q2:y<e
   ·rw[r3 y a3 q2]; exact k2 _ _ (by omega) (by omega) (by omega) (by omega)
   ·rw[r4 y (by omega)]; exact h2 _ y (by omega) (by omega) a4
theorem tP.of {R':List (Nat × Nat)} {a m e lo hi:Nat} (h:tP R a m e) (s:Qc R R' lo hi) (o:Ud R R' lo hi) (hx:(a≤lo∧hi≤m)∨(m≤lo∧hi≤e)):tP R' a m e:=by
 have rep:∀ x,∃ y,gd R' x=gd R y∧((lo≤x∧x<hi∧lo≤y∧y<hi)∨((x<lo∨hi≤x)∧y=x)):=by
  intro x
  by_cases q:lo≤x∧x<hi
  ·obtain ⟨y,y1,y2,hy⟩:=(s (gd R' x)).1 ⟨x,q.1,q.2,rfl⟩
   exact ⟨y,hy.symm,.inl ⟨q.1,q.2,y1,y2⟩⟩
  ·exact ⟨x,o x (by omega),.inr ⟨by omega,rfl⟩⟩
 intro x y a1 a2 a3 a4
 obtain ⟨x',e1,hx'⟩:=rep x
 obtain ⟨y',e2,hy'⟩:=rep y
 rw[e1,e2]
 exact h x' y' (by omega) (by omega) (by omega) (by omega)
theorem UO.Cx {R':List (Nat × Nat)} {a c lo hi:Nat} (h:UO R a c) (o:Ud R R' lo hi) (hx:c≤lo∨hi≤a):UO R' a c:=fun x y a1 a2 a3=>by
 rw[o x (by omega),o y (by omega)]; exact h x y a1 a2 a3
set_option maxHeartbeats 2000000 in
theorem ag (hln:R.length≤3000):∀ (d K a m c:Nat) (σ:Aa) (R':List (Nat × Nat)),20000+d≤K→c-a≤d→a<m→m<c→c≤R.length→R'.length=R.length→Ho σ b R'→gZ R'→UO R' a m→UO R' m c→tP R' a m c →
  ∃ σ' R'',A9 K (some ⟨b,0,none⟩,R.length,R.length) (a:Int) (m:Int) (c:Int) Sd σ=some (.tuple #[],σ')∧Ho σ' b R''∧df R' R'' a c∧FK b σ σ'
 | 0,K,a,m,c,σ,R',hK,hd,ham,hmc,hc,hl,h,hS,s1,s2,cr=>by omega
 | d+1,K,a,m,c,σ,R',hK,hd,ham,hmc,hc,hl,h,hS,s1,s2,cr=>by
   obtain ⟨k,rfl⟩:∃ k,K=k+3:=⟨K-3,by omega⟩
   have w1:Ae ((m:Int)-(a:Int))=(m:Int)-(a:Int):=Ad (by unfold AV; omega)
   have w2:Ae ((c:Int)-(m:Int))=(c:Int)-(m:Int):=Ad (by unfold AV; omega)
   rw[Nf,IJ]
   simp only[w1,w2]
   by_cases q1:m=a+1
   ·subst q1
    obtain ⟨τ,r,e1,r1,r2,r3,r4⟩:=gE (k+1) hln (a:=a) (lo:=a+1) (hi:=c) (by omega) hc hl hS (fun x y x1 x2 x3 hh=>by have:=s2.le x1 (Nat.le_of_lt x2) x3; omega) (c-(a+1)) (a+1) c (k+2) σ h (Nat.le_refl _) (by omega) (Nat.le_refl _) (by omega) (by omega) (fun x x1 x2=>by omega) (fun x x1 x2=>by omega)
    obtain ⟨σ2,R2,e2,g2,l2,t2,o2⟩:=mS (k+2) hln (e:=r) (by omega) (r-(a+1)) a (k+2) (σ++τ) R' hl (h.app τ) (by omega) (by omega)
    refine ⟨σ2,R2, ?_,g2,⟨l2.trans hl.symm,vV s2 r1 r2 t2 r3 r4 cr,t2.same (by omega) (by omega) (Nat.le_refl _) r2,t2.out (Nat.le_refl _) r2⟩,(FK.app _ _).trans o2⟩
    rw[show (((a+1:Nat):Int)-(a:Int) == 1)=true from by simp; omega]
    simp only[cond_true,e1,Option.bind_some,if_true,DQ,e2]
   rw[show ((m:Int)-(a:Int) == 1)=false from by rw[beq_eq_false_iff_ne]; omega]
   simp only[cond_false]
   by_cases q2:c=m+1
   ·subst q2
    obtain ⟨τ,r,e1,r1,r2,r3,r4⟩:=gF (k+1) hln (a:=m) (lo:=a) (hi:=m) (by omega) (by omega) hl hS (fun x y x1 x2 x3 hh=>by have:=s1.le x1 (Nat.le_of_lt x2) x3; omega) (m-a) a m (k+2) σ h (Nat.le_refl _) (by omega) (Nat.le_refl _) (by omega) (by omega) (fun x x1 x2=>by omega) (fun x x1 x2=>by omega)
    obtain ⟨σ2,R2,e2,g2,l2,t2,o2⟩:=mT (k+2) hln (i:=r) (m-r) m (k+2) (σ++τ) R' hl (h.app τ) (by omega) (by omega) (by omega)
    refine ⟨σ2,R2, ?_,g2,⟨l2.trans hl.symm,vW s1 r1 r2 t2 r3 r4 cr,t2.same r2 (by omega) r1 (Nat.le_refl _),t2.out r1 (Nat.le_refl _)⟩,(FK.app _ _).trans o2⟩
    rw[show (((m+1:Nat):Int)-(m:Int) == 1)=true from by simp; omega]
    simp only[cond_true,e1,Option.bind_some,if_true,DQ,e2]
   rw[show ((c:Int)-(m:Int) == 1)=false from by rw[beq_eq_false_iff_ne]; omega]
   simp only[cond_false]
   have hh:=dH a c (by omega)
   obtain ⟨mid,hmid⟩:∃ mid,(a+c)/2=mid:=⟨_,rfl⟩
   rw[hmid] at hh
   have w3:Ae ((mid:Int)+(m:Int))=((mid+m:Nat):Int):=Ad (by unfold AV; omega)
   have w4:Ae (((mid+m:Nat):Int)-(c:Int))=(mid:Int)+(m:Int)-(c:Int):=by rw[Ad (by unfold AV; omega)]; omega
   have w5:Ae (((mid+m:Nat):Int)-1)=((mid+m-1:Nat):Int):=by rw[Ad (by unfold AV; omega)]; omega
   simp only[if_neg (show ¬ (1:Int)<0 by decide),hh,w3,w4,w5]
   obtain ⟨lo,hi,elh,hlo1,hlo2,hhi1,hhi2,hlh,hpc⟩:∃ lo hi:Nat,((bif decide ((m:Int)>(mid:Int)) then (some (Br.normal,[Value.int .i64 ((mid:Int)+(m:Int)-(c:Int)),.int .i64 (mid:Int)],σ)) else (some (Br.normal,[.int .i64 (a:Int),.int .i64 (m:Int)],σ)):Option Ax)=some (.normal,[.int .i64 (lo:Int),.int .i64 (hi:Int)],σ))∧a≤lo∧((lo=a∧m≤mid)∨mid+m-lo=c)∧(hi≤m∧hi≤mid)∧(hi=m∨hi=mid)∧lo≤hi ∧ ∀ x,lo≤x→x<hi→m≤mid+m-1-x∧mid+m-1-x<c∧x≤mid+m-1:=by
    by_cases q3:(m:Int)>(mid:Int)
    ·refine ⟨mid+m-c,mid, ?_,by omega,.inr (by omega),⟨by omega,by omega⟩,.inr rfl,by omega,fun x x1 x2=>by omega⟩
     rw[decide_eq_true q3,show ((mid+m-c:Nat):Int)=(mid:Int)+(m:Int)-(c:Int) from by omega]; rfl
    ·refine ⟨a,m, ?_,Nat.le_refl _,.inl ⟨rfl,by omega⟩,⟨Nat.le_refl _,by omega⟩,.inl rfl,by omega,fun x x1 x2=>by omega⟩
     rw[decide_eq_false q3]; rfl
   rw[elh]
   obtain ⟨τ,s,e1,r1,r2,r3,r4⟩:=gG (k+1) hln (p:=mid+m-1) (lo:=lo) (hi:=hi) (fun x x1 x2=>by have:=hpc x x1 x2; omega) (by omega) (by omega) hl hS (fun x y x1 x2 x3 hh=>by
    have u1:=s1.le (show a≤x by omega) (Nat.le_of_lt x2) (show y<m by omega)
    have u2:=hpc x x1 (by omega)
    have u3:=hpc y (by omega) x3
    have u4:=s2.le (show m≤mid+m-1-y by omega) (show mid+m-1-y≤mid+m-1-x by omega) (by omega)
    omega) (hi-lo) lo hi (k+2) σ h (Nat.le_refl _) hlh (Nat.le_refl _) (by omega) (by omega) (fun x x1 x2=>by omega) (fun x x1 x2=>by omega)
   obtain ⟨e,he⟩:∃ e,mid+m-s=e:=⟨_,rfl⟩
   have w6:Ae (((mid+m:Nat):Int)-(s:Int))=(e:Int):=by rw[Ad (by unfold AV; omega)]; omega
   have hme:m≤e:=by omega
   have hec:e≤c:=by
    rcases hlo2 with q | q <;> omega
   simp only[Option.bind_some,if_true,Gi,e1,DQ,w6]
   have p1:a<s→e<c→aa (gd R' (s-1)) (gd R' e):=fun x1 x2=>by
    have u1:lo≤s-1:=by rcases hlo2 with q | q <;> omega
    have u2:=r3 (s-1) u1 (by omega)
    rw[show mid+m-1-(s-1)=e from by omega] at u2
    have u3:=cr (s-1) e (by omega) (by omega) hme x2
    unfold aa; omega
   have p2:s<m→m<e→aa (gd R' (e-1)) (gd R' s):=fun x1 x2=>by
    have u1:s<hi:=by rcases hhi2 with q | q <;> omega
    have u2:=r4 s (Nat.le_refl _) u1
    rw[show mid+m-1-s=e-1 from by omega] at u2
    exact .inl u2
   obtain ⟨σ2,R2,e2,g2,l2,t2,o2⟩:∃ σ2 R2,((bif decide ((s:Int)<(m:Int)) then some (decide ((m:Int)<(e:Int)),σ++τ) else some (false,σ++τ)).bind fun r65=>(bif r65.1 then ((Cz (k+2) (some ⟨b,0,none⟩,R.length,R.length) (s:Int) (m:Int) (e:Int) Sd r65.2).bind fun r66=>W9 r66.1 (some (Br.normal,[],r66.2))) else (some (Br.normal,[],r65.2)):Option Ax))=some (.normal,[],σ2)∧Ho σ2 b R2∧R2.length=R.length∧kT R' R2 s m e∧FK b (σ++τ) σ2:=by
    by_cases q3:s<m
    ·by_cases q4:m<e
     ·obtain ⟨σ2,R2,e2,g2,l2,t2,o2⟩:=rC k (by omega) hln q3 q4 (show e≤R.length by omega) (σ++τ) R' hl (h.app τ) Sd
      refine ⟨σ2,R2, ?_,g2,l2,t2,o2⟩
      simp only[decide_eq_true (show (s:Int)<(m:Int) by omega),cond_true,decide_eq_true (show (m:Int)<(e:Int) by omega),Option.bind_some,e2,KE]
     ·refine ⟨σ++τ,R', ?_,h.app τ,hl,kT.xm (.inr (by omega)),FK.refl _⟩
      simp only[decide_eq_true (show (s:Int)<(m:Int) by omega),cond_true,decide_eq_false (show ¬ (m:Int)<(e:Int) by omega),Option.bind_some,cond_false]
    ·refine ⟨σ++τ,R', ?_,h.app τ,hl,kT.xm (.inl (by omega)),FK.refl _⟩
     simp only[decide_eq_false (show ¬ (s:Int)<(m:Int) by omega),cond_false,Option.bind_some]
   have hsm:s≤m:=by omega
   have has:a≤s:=by omega
   obtain ⟨v1,v2,v3,v4,v5,v6,v7⟩:=vX s1 s2 cr has hsm hme hec (show mid=s+(e-m) by omega) t2 p1 p2
   have S2:gZ R2:=hS.of (t2.same hsm hme has hec) (t2.out has hec)
   obtain ⟨σ3,R3,e3,g3,d3,o3⟩:∃ σ3 R3,((bif decide ((a:Int)<(s:Int)) then some (decide ((s:Int)<(mid:Int)),σ2) else some (false,σ2)).bind fun r68=>(bif r68.1 then ((A9 (k+2) (some ⟨b,0,none⟩,R.length,R.length) (a:Int) (s:Int) (mid:Int) Sd r68.2).bind fun r69=>W9 r69.1 (some (Br.normal,[],r69.2))) else (some (Br.normal,[],r68.2)):Option Ax))=some (.normal,[],σ3)∧Ho σ3 b R3∧df R2 R3 a mid∧FK b σ2 σ3:=by
    by_cases q3:a<s
    ·by_cases q4:s<mid
     ·obtain ⟨σ3,R3,e3,g3,d3,o3⟩:=ag hln d (k+2) a s mid σ2 R2 (by omega) (by omega) q3 q4 (by omega) l2 g2 S2 v1 v2 v3
      refine ⟨σ3,R3, ?_,g3,d3,o3⟩
      simp only[decide_eq_true (show (a:Int)<(s:Int) by omega),cond_true,decide_eq_true (show (s:Int)<(mid:Int) by omega),Option.bind_some,e3,KE]
     ·refine ⟨σ2,R2, ?_,g2,⟨rfl,fun x y a1 a2 a3=>v1 x y a1 a2 (by omega),fun _=>Iff.rfl,fun _ _=>rfl⟩,FK.refl _⟩
      simp only[decide_eq_true (show (a:Int)<(s:Int) by omega),cond_true,decide_eq_false (show ¬ (s:Int)<(mid:Int) by omega),Option.bind_some,cond_false]
    ·refine ⟨σ2,R2, ?_,g2,⟨rfl,fun x y a1 a2 a3=>v2 x y (by omega) a2 a3,fun _=>Iff.rfl,fun _ _=>rfl⟩,FK.refl _⟩
     simp only[decide_eq_false (show ¬ (a:Int)<(s:Int) by omega),cond_false,Option.bind_some]
   have S3:gZ R3:=S2.of d3.set d3.out
   obtain ⟨σ4,R4,e4,g4,d4,o4⟩:∃ σ4 R4,((bif decide ((mid:Int)<(e:Int)) then some (decide ((e:Int)<(c:Int)),σ3) else some (false,σ3)).bind fun r71=>(bif r71.1 then ((A9 (k+2) (some ⟨b,0,none⟩,R.length,R.length) (mid:Int) (e:Int) (c:Int) Sd r71.2).bind fun r72=>W9 r72.1 (some (Br.normal,[],r72.2))) else (some (Br.normal,[],r71.2)):Option Ax))=some (.normal,[],σ4)∧Ho σ4 b R4∧df R3 R4 mid c∧FK b σ3 σ4:=by
    have v4':UO R3 mid e:=v4.Cx d3.out (.inr (Nat.le_refl _))
    have v5':UO R3 e c:=v5.Cx d3.out (.inr (by omega))
    have v6':tP R3 mid e c:=fun x y a1 a2 a3 a4=>by rw[d3.out x (by omega),d3.out y (by omega)]; exact v6 x y a1 a2 a3 a4
    by_cases q3:mid<e
    ·by_cases q4:e<c
     ·obtain ⟨σ4,R4,e4,g4,d4,o4⟩:=ag hln d (k+2) mid e c σ3 R3 (by omega) (by omega) q3 q4 hc (d3.len.trans l2) g3 S3 v4' v5' v6'
      refine ⟨σ4,R4, ?_,g4,d4,o4⟩
      simp only[decide_eq_true (show (mid:Int)<(e:Int) by omega),cond_true,decide_eq_true (show (e:Int)<(c:Int) by omega),Option.bind_some,e4,KE]
     ·refine ⟨σ3,R3, ?_,g3,⟨rfl,fun x y a1 a2 a3=>v4' x y a1 a2 (by omega),fun _=>Iff.rfl,fun _ _=>rfl⟩,FK.refl _⟩
      simp only[decide_eq_true (show (mid:Int)<(e:Int) by omega),cond_true,decide_eq_false (show ¬ (e:Int)<(c:Int) by omega),Option.bind_some,cond_false]
    ·refine ⟨σ3,R3, ?_,g3,⟨rfl,fun x y a1 a2 a3=>v5' x y (by omega) a2 a3,fun _=>Iff.rfl,fun _ _=>rfl⟩,FK.refl _⟩
     simp only[decide_eq_false (show ¬ (mid:Int)<(e:Int) by omega),cond_false,Option.bind_some]
   refine ⟨σ4,R4, ?_,g4,⟨d4.len.trans (d3.len.trans (l2.trans hl.symm)), ?_, ?_, ?_⟩,((((FK.app _ _).trans o2).trans o3).trans o4)⟩
   ·rw[Option.bind_eq_some_iff] at e2 e3 e4
    obtain ⟨x2,e2,f2⟩:=e2
    obtain ⟨x3,e3,f3⟩:=e3
    obtain ⟨x4,e4,f4⟩:=e4
    simp only[e2,Option.bind_some,f2,if_true,e3,f3,e4,f4]
   ·refine UO.join (m:=mid) (d3.srt.Cx d4.out (.inl (Nat.le_refl _))) d4.srt fun x y a1 a2 a3 a4=>?_
    rw[d4.out x (by omega)]
    obtain ⟨y',y1,y2,hy⟩:=(d4.set (gd R4 y)).1 ⟨y,a3,a4,rfl⟩
    obtain ⟨x',x1,x2,hx⟩:=(d3.set (gd R3 x)).1 ⟨x,a1,a2,rfl⟩
    rw[← hy,← hx,d3.out y' (by omega)]
    exact v7 x' y' x1 x2 y1 y2
   ·exact ((t2.same hsm hme has hec).trans (d3.set.wide d3.out (Nat.le_refl _) (by omega))).trans (d4.set.wide d4.out (by omega) (Nat.le_refl _))
   ·exact ((t2.out has hec).trans (d3.out.wide (Nat.le_refl _) (by omega))).trans (d4.out.wide (by omega) (Nat.le_refl _))
end Go.Proofs.YtlaplcglpnlieaaGreat
end
