/- symMerge and the stable sort of gaps.; The stable sort of gaps; the policy best. -/
import Derived.Test.YtlaplcglpnlieaaGreatP19
set_option linter.unusedVariables false
set_option linter.unusedSimpArgs false
set_option linter.unusedSectionVars false
section
namespace Go.Proofs.YtlaplcglpnlieaaGreat
open Go Go.AX
noncomputable local instance vZ:AK:=As
local instance uS:Kn:=⟨true⟩
variable {σ:Aa} {b:Nat} {R:List (Nat × Nat)}
theorem az (x y:Nat) (h:x+y≤100000):Ad ((u64 (Ad ((x:Int)+(y:Int)))).fdiv (2 ^ (min (1:Int).toNat 64)))=(((x+y)/2:Nat):Int):=by
 rw[Ac (show AN ((x:Int)+(y:Int)) by unfold AN; omega)]
 have e1:u64 ((x:Int)+(y:Int))=((x+y:Nat):Int):=by
  unfold u64
  have:=IntKind.wrap_u64 ((x:Int)+(y:Int))
  rw[this]; omega
 rw[e1,show (2:Int) ^ (min (1:Int).toNat 64)=2 from by decide,show (((x+y:Nat):Int)).fdiv 2=(((x+y)/2:Nat):Int) from by rw[Int.fdiv_eq_ediv_of_nonneg _ (by omega)]; omega]
 exact Ac (by unfold AN; omega)
theorem my (e g:Nat × Nat):(!decide ((e.2:Int)-(g.2:Int)<0))=decide (¬ e.2<g.2):=by
 rw[kC]
 by_cases q:e.2<g.2
 ·rw[decide_eq_true q,decide_eq_false (fun h=>h q)]; rfl
 ·rw[decide_eq_false q,decide_eq_true q]; rfl
theorem Tg.le {lo hi:Nat} (h:Tg R lo hi) {x y:Nat} (h1:lo≤x) (h2:x≤y) (h3:y<hi):(gd R x).2≤(gd R y).2:=by
 rcases Nat.eq_or_lt_of_le h2 with rfl | h2
 ·exact Nat.le_refl _
 ·have:=h x y h1 h2 h3
  unfold XT at this; omega
theorem cS (k:Nat) (hln:R.length≤3000) {a lo hi:Nat} (ha:a<R.length) (hhi:hi≤R.length) {R':List (Nat × Nat)} (hl:R'.length=R.length) (hS:dm R') (mono:∀ x y,lo≤x→x<y→y<hi→(gd R' y).2<(gd R' a).2→(gd R' x).2<(gd R' a).2):∀ (n i j f:Nat) (σ:Aa),G8 σ b R'→lo≤i→i≤j→j≤hi→j≤i+n→n<f→(∀ x,lo≤x→x<i→(gd R' x).2<(gd R' a).2)→(∀ x,j≤x→x<hi→¬ (gd R' x).2<(gd R' a).2) →
  ∃ (τ:Aa) (r:Nat),BB (k+1) f (some ⟨b,0,none⟩) R.length R.length (a:Int) Q9 (i:Int) (j:Int) σ=some (.exit 0,[.int .i64 (r:Int)],σ++τ)∧lo≤r∧r≤hi∧(∀ x,lo≤x→x<r→(gd R' x).2<(gd R' a).2)∧(∀ x,r≤x→x<hi→¬ (gd R' x).2<(gd R' a).2)
 | n,i,j,0,σ,h,h1,h2,h3,hn,hf,p1,p2=>by omega
 | n,i,j,f+1,σ,h,h1,h2,h3,hn,hf,p1,p2=>by
   rw[KS,GV]
   by_cases q:i<j
   ·have hh:=az i j (by omega)
    obtain ⟨c,hc⟩:∃ c,(i+j)/2=c:=⟨_,rfl⟩
    rw[hc] at hh
    have q1:(0≤(c:Int)∧(c:Int)<((R.length:Nat):Int))=True:=eq_true (by omega)
    have q2:(0≤(a:Int)∧(a:Int)<((R.length:Nat):Int))=True:=eq_true (by omega)
    obtain ⟨l0,l1⟩:=h.ld (x:=c) (by omega)
    obtain ⟨l2,l3⟩:=h.ld (x:=a) (by omega)
    obtain ⟨τ,ec⟩:=gn k (gd R' c) (gd R' a) (hS _).2 (hS _).2 σ
    have w1:Ad ((c:Int)+1)=((c+1:Nat):Int):=Ac (by unfold AN; omega)
    simp only[decide_eq_true (show (i:Int)<(j:Int) by omega),cond_true,hh,q1,q2,if_true,if_neg (show ¬ (1:Int)<0 by decide),Option.bind_some,Int.toNat_natCast,Nat.zero_add,l0,l1,l2,l3,ec,Am,kC,w1]
    by_cases q3:(gd R' c).2<(gd R' a).2
    ·obtain ⟨τ2,r,e2,r1,r2,r3,r4⟩:=cS k hln ha hhi hl hS mono (n-1) (c+1) j f (σ++τ) (h.app τ) (by omega) (by omega) h3 (by omega) (by omega) (fun x x1 x2=>by
      by_cases q4:x=c
      ·rw[q4]; exact q3
      ·exact mono x c x1 (by omega) (by omega) q3) p2
     refine ⟨τ++τ2,r, ?_,r1,r2,r3,r4⟩
     simp only[decide_eq_true q3,cond_true,Option.bind_some,if_true,GS,e2,List.append_assoc]
    ·obtain ⟨τ2,r,e2,r1,r2,r3,r4⟩:=cS k hln ha hhi hl hS mono (n-1) i c f (σ++τ) (h.app τ) h1 (by omega) (by omega) (by omega) (by omega) p1 (fun x x1 x2 hh=>by
      by_cases q4:x=c
      ·rw[q4] at hh; exact q3 hh
      ·exact q3 (mono c x (by omega) (by omega) x2 hh))
     refine ⟨τ++τ2,r, ?_,r1,r2,r3,r4⟩
     simp only[decide_eq_false q3,cond_false,Option.bind_some,if_true,GS,e2,List.append_assoc]
   ·obtain rfl:i=j:=by omega
    refine ⟨[],i, ?_,h1,h3,p1,p2⟩
    simp only[decide_eq_false (Int.lt_irrefl _),cond_false,List.append_nil]
theorem cU (k:Nat) (hln:R.length≤3000) {a lo hi:Nat} (ha:a<R.length) (hhi:hi≤R.length) {R':List (Nat × Nat)} (hl:R'.length=R.length) (hS:dm R') (mono:∀ x y,lo≤x→x<y→y<hi→¬ (gd R' a).2<(gd R' y).2→¬ (gd R' a).2<(gd R' x).2):∀ (n i j f:Nat) (σ:Aa),G8 σ b R'→lo≤i→i≤j→j≤hi→j≤i+n→n<f→(∀ x,lo≤x→x<i→¬ (gd R' a).2<(gd R' x).2)→(∀ x,j≤x→x<hi→(gd R' a).2<(gd R' x).2) →
  ∃ (τ:Aa) (r:Nat),BF (k+1) f (some ⟨b,0,none⟩) R.length R.length (a:Int) Q9 (i:Int) (j:Int) σ=some (.exit 4,[.int .i64 (r:Int)],σ++τ)∧lo≤r∧r≤hi∧(∀ x,lo≤x→x<r→¬ (gd R' a).2<(gd R' x).2)∧(∀ x,r≤x→x<hi→(gd R' a).2<(gd R' x).2)
 | n,i,j,0,σ,h,h1,h2,h3,hn,hf,p1,p2=>by omega
 | n,i,j,f+1,σ,h,h1,h2,h3,hn,hf,p1,p2=>by
   rw[KT,GW]
   by_cases q:i<j
   ·have hh:=az i j (by omega)
    obtain ⟨c,hc⟩:∃ c,(i+j)/2=c:=⟨_,rfl⟩
    rw[hc] at hh
    have q1:(0≤(c:Int)∧(c:Int)<((R.length:Nat):Int))=True:=eq_true (by omega)
    have q2:(0≤(a:Int)∧(a:Int)<((R.length:Nat):Int))=True:=eq_true (by omega)
    obtain ⟨l0,l1⟩:=h.ld (x:=c) (by omega)
    obtain ⟨l2,l3⟩:=h.ld (x:=a) (by omega)
    obtain ⟨τ,ec⟩:=gn k (gd R' a) (gd R' c) (hS _).2 (hS _).2 σ
    have w1:Ad ((c:Int)+1)=((c+1:Nat):Int):=Ac (by unfold AN; omega)
    simp only[decide_eq_true (show (i:Int)<(j:Int) by omega),cond_true,hh,q1,q2,if_true,if_neg (show ¬ (1:Int)<0 by decide),Option.bind_some,Int.toNat_natCast,Nat.zero_add,l0,l1,l2,l3,ec,Am,my,w1]
    by_cases q3:¬ (gd R' a).2<(gd R' c).2
    ·obtain ⟨τ2,r,e2,r1,r2,r3,r4⟩:=cU k hln ha hhi hl hS mono (n-1) (c+1) j f (σ++τ) (h.app τ) (by omega) (by omega) h3 (by omega) (by omega) (fun x x1 x2=>by
      by_cases q4:x=c
      ·rw[q4]; exact q3
      ·exact mono x c x1 (by omega) (by omega) q3) p2
     refine ⟨τ++τ2,r, ?_,r1,r2,r3,r4⟩
     simp only[decide_eq_true q3,cond_true,Option.bind_some,if_true,GS,e2,List.append_assoc]
    ·obtain ⟨τ2,r,e2,r1,r2,r3,r4⟩:=cU k hln ha hhi hl hS mono (n-1) i c f (σ++τ) (h.app τ) h1 (by omega) (by omega) (by omega) (by omega) p1 (fun x x1 x2=>by
      by_cases q4:x=c
      ·rw[q4]; exact Decidable.not_not.1 q3
      ·exact Decidable.not_not.1 fun hh=>q3 (mono c x (by omega) (by omega) x2 hh))
     refine ⟨τ++τ2,r, ?_,r1,r2,r3,r4⟩
     simp only[decide_eq_false q3,cond_false,Option.bind_some,if_true,GS,e2,List.append_assoc]
   ·obtain rfl:i=j:=by omega
    refine ⟨[],i, ?_,h1,h3,p1,p2⟩
    simp only[decide_eq_false (Int.lt_irrefl _),cond_false,List.append_nil]
theorem cV (k:Nat) (hln:R.length≤3000) {p lo hi:Nat} (hp:∀ c,lo≤c→c<hi→c≤p∧p-c<R.length) (hp2:p≤10000) (hhi:hi≤R.length) {R':List (Nat × Nat)} (hl:R'.length=R.length) (hS:dm R') (mono:∀ x y,lo≤x→x<y→y<hi→¬ (gd R' (p-y)).2<(gd R' y).2→¬ (gd R' (p-x)).2<(gd R' x).2):∀ (n i j f:Nat) (σ:Aa),G8 σ b R'→lo≤i→i≤j→j≤hi→j≤i+n→n<f→(∀ x,lo≤x→x<i→¬ (gd R' (p-x)).2<(gd R' x).2)→(∀ x,j≤x→x<hi→(gd R' (p-x)).2<(gd R' x).2) →
  ∃ (τ:Aa) (r:Nat),BH (k+1) f (some ⟨b,0,none⟩) R.length R.length Q9 (p:Int) (i:Int) (j:Int) σ=some (.exit 8,[.int .i64 (r:Int)],σ++τ)∧lo≤r∧r≤hi∧(∀ x,lo≤x→x<r→¬ (gd R' (p-x)).2<(gd R' x).2)∧(∀ x,r≤x→x<hi→(gd R' (p-x)).2<(gd R' x).2)
 | n,i,j,0,σ,h,h1,h2,h3,hn,hf,p1,p2=>by omega
 | n,i,j,f+1,σ,h,h1,h2,h3,hn,hf,p1,p2=>by
   rw[KU,GX]
   by_cases q:i<j
   ·have hh:=az i j (by omega)
    obtain ⟨c,hc⟩:∃ c,(i+j)/2=c:=⟨_,rfl⟩
    rw[hc] at hh
    obtain ⟨hp3,hp4⟩:=hp c (by omega) (by omega)
    have w0:Ad ((p:Int)-(c:Int))=((p-c:Nat):Int):=by rw[Ac (by unfold AN; omega)]; omega
    have q1:(0≤(c:Int)∧(c:Int)<((R.length:Nat):Int))=True:=eq_true (by omega)
    have q2:(0≤((p-c:Nat):Int)∧((p-c:Nat):Int)<((R.length:Nat):Int))=True:=eq_true (by omega)
    obtain ⟨l0,l1⟩:=h.ld (x:=c) (by omega)
    obtain ⟨l2,l3⟩:=h.ld (x:=p-c) (by omega)
    obtain ⟨τ,ec⟩:=gn k (gd R' (p-c)) (gd R' c) (hS _).2 (hS _).2 σ
    have w1:Ad ((c:Int)+1)=((c+1:Nat):Int):=Ac (by unfold AN; omega)
    simp only[decide_eq_true (show (i:Int)<(j:Int) by omega),cond_true,hh,w0,q1,q2,if_true,if_neg (show ¬ (1:Int)<0 by decide),Option.bind_some,Int.toNat_natCast,Nat.zero_add,l0,l1,l2,l3,ec,Am,my,w1]
    by_cases q3:¬ (gd R' (p-c)).2<(gd R' c).2
    ·obtain ⟨τ2,r,e2,r1,r2,r3,r4⟩:=cV k hln hp hp2 hhi hl hS mono (n-1) (c+1) j f (σ++τ) (h.app τ) (by omega) (by omega) h3 (by omega) (by omega) (fun x x1 x2=>by
      by_cases q4:x=c
      ·rw[q4]; exact q3
      ·exact mono x c x1 (by omega) (by omega) q3) p2
     refine ⟨τ++τ2,r, ?_,r1,r2,r3,r4⟩
     simp only[decide_eq_true q3,cond_true,Option.bind_some,if_true,GS,e2,List.append_assoc]
    ·obtain ⟨τ2,r,e2,r1,r2,r3,r4⟩:=cV k hln hp hp2 hhi hl hS mono (n-1) i c f (σ++τ) (h.app τ) h1 (by omega) (by omega) (by omega) (by omega) p1 (fun x x1 x2=>by
      by_cases q4:x=c
      ·rw[q4]; exact Decidable.not_not.1 q3
      ·exact Decidable.not_not.1 fun hh=>q3 (mono c x (by omega) (by omega) x2 hh))
     refine ⟨τ++τ2,r, ?_,r1,r2,r3,r4⟩
     simp only[decide_eq_false q3,cond_false,Option.bind_some,if_true,GS,e2,List.append_assoc]
   ·obtain rfl:i=j:=by omega
    refine ⟨[],i, ?_,h1,h3,p1,p2⟩
    simp only[decide_eq_false (Int.lt_irrefl _),cond_false,List.append_nil]
theorem jD (k:Nat) (hln:R.length≤3000) {e:Nat} (he:e≤R.length):∀ (n x f:Nat) (σ:Aa) (R':List (Nat × Nat)),R'.length=R.length→G8 σ b R'→x+1+n=e→n<f →
  ∃ σ' R'',BE k f (some ⟨b,0,none⟩) R.length R.length (e:Int) (x:Int) σ=some (.exit 2,[],σ')∧G8 σ' b R''∧R''.length=R.length∧ia R' R'' x (x+1) e∧Fo b σ σ'
 | n,x,0,σ,R',hl,h,hx,hf=>by omega
 | 0,x,f+1,σ,R',hl,h,hx,hf=>by
   have w1:Ad ((e:Int)-1)=(x:Int):=by rw[Ac (by unfold AN; omega)]; omega
   rw[Gw,EK]
   refine ⟨σ,R',by simp only[w1,decide_eq_false (Int.lt_irrefl _),cond_false],h,hl,fun z=>?_,Fo.refl _⟩
   split
   ·rfl
   ·rw[if_neg (by omega)]; congr 1; omega
 | n+1,x,f+1,σ,R',hl,h,hx,hf=>by
   have w1:Ad ((e:Int)-1)=(e:Int)-1:=Ac (by unfold AN; omega)
   have w2:Ad ((x:Int)+1)=((x+1:Nat):Int):=Ac (by unfold AN; omega)
   have q1:(0≤((x+1:Nat):Int)∧((x+1:Nat):Int)<((R.length:Nat):Int))=True:=eq_true (by omega)
   have q2:(0≤(x:Int)∧(x:Int)<((R.length:Nat):Int))=True:=eq_true (by omega)
   obtain ⟨l0,l1⟩:=h.ld (x:=x+1) (by omega)
   obtain ⟨l2,l3⟩:=h.ld (x:=x) (by omega)
   obtain ⟨σ1,σ2,e1,e2,g2,o2⟩:=h.sw (x:=x) (y:=x+1) (by omega) (by omega)
   obtain ⟨σ3,R3,e3,g3,l3',d3,o3⟩:=jD k hln he n (x+1) f σ2 (sw R' x (x+1)) (by rw[dd]; exact hl) g2 (by omega) (by omega)
   refine ⟨σ3,R3, ?_,g3,l3',fun z=>?_,o2.trans o3⟩
   ·rw[Gw,EK]
    simp only[w1,decide_eq_true (show (x:Int)<(e:Int)-1 by omega),cond_true,w2,q1,q2,if_true,Option.bind_some,Int.toNat_natCast,Nat.zero_add,l0,l1,l2,l3,e1,e2,e3]
   ·have gs:∀ z,gd (sw R' x (x+1)) z=if z=x+1 then gd R' x else if z=x then gd R' (x+1) else gd R' z:=fun z=>iP _ _ _ _ (by omega) (by omega)
    rw[d3 z]
    by_cases c1:z<x∨e≤z
    ·rw[if_pos c1,if_pos (by omega),gs,if_neg (by omega),if_neg (by omega)]
    ·rw[if_neg c1]
     by_cases c2:z=x
     ·rw[if_pos (by omega),if_pos (by omega),gs,if_neg (by omega),if_pos c2]; congr 1; omega
     ·rw[if_neg (by omega)]
      by_cases c3:z<x+1+(e-(x+1+1))
      ·rw[if_pos c3,if_pos (by omega),gs,if_neg (by omega),if_neg (by omega)]; congr 1; omega
      ·rw[if_neg c3,if_neg (by omega),gs,if_pos (by omega)]; congr 1; omega
theorem jE (k:Nat) (hln:R.length≤3000) {i:Nat}:∀ (n x f:Nat) (σ:Aa) (R':List (Nat × Nat)),R'.length=R.length→G8 σ b R'→x<R.length→i+n=x→n<f →
  ∃ σ' R'',BG k f (some ⟨b,0,none⟩) R.length R.length (i:Int) (x:Int) σ=some (.exit 6,[],σ')∧G8 σ' b R''∧R''.length=R.length∧ia R' R'' i x (x+1)∧Fo b σ σ'
 | n,x,0,σ,R',hl,h,hxl,hx,hf=>by omega
 | 0,x,f+1,σ,R',hl,h,hxl,hx,hf=>by
   rw[Gx,EL]
   refine ⟨σ,R',by simp only[decide_eq_false (show ¬ (x:Int)>(i:Int) by omega),cond_false],h,hl,fun z=>?_,Fo.refl _⟩
   split
   ·rfl
   ·rw[if_pos (by omega)]; congr 1; omega
 | n+1,x,f+1,σ,R',hl,h,hxl,hx,hf=>by
   obtain ⟨p,rfl⟩:∃ p,x=p+1:=⟨x-1,by omega⟩
   have w2:Ad (((p+1:Nat):Int)-1)=(p:Int):=by rw[Ac (by unfold AN; omega)]; omega
   have q1:(0≤((p+1:Nat):Int)∧((p+1:Nat):Int)<((R.length:Nat):Int))=True:=eq_true (by omega)
   have q2:(0≤(p:Int)∧(p:Int)<((R.length:Nat):Int))=True:=eq_true (by omega)
   obtain ⟨l0,l1⟩:=h.ld (x:=p+1) (by omega)
   obtain ⟨l2,l3⟩:=h.ld (x:=p) (by omega)
   obtain ⟨σ1,σ2,e1,e2,g2,o2⟩:=h.sw (x:=p+1) (y:=p) (by omega) (by omega)
   obtain ⟨σ3,R3,e3,g3,l3',d3,o3⟩:=jE k (i:=i) hln n p f σ2 (sw R' (p+1) p) (by rw[dd]; exact hl) g2 (by omega) (by omega) (by omega)
   refine ⟨σ3,R3, ?_,g3,l3',fun z=>?_,o2.trans o3⟩
   ·rw[Gx,EL]
    simp only[decide_eq_true (show ((p+1:Nat):Int)>(i:Int) by omega),cond_true,w2,q1,q2,if_true,Option.bind_some,Int.toNat_natCast,Nat.zero_add,l0,l1,l2,l3,e1,e2,e3]
   ·have gs:∀ z,gd (sw R' (p+1) p) z=if z=p then gd R' (p+1) else if z=p+1 then gd R' p else gd R' z:=fun z=>iP _ _ _ _ (by omega) (by omega)
    rw[d3 z]
    by_cases c1:z<i∨p+1+1≤z
    ·rw[if_pos c1,if_pos (by omega),gs,if_neg (by omega),if_neg (by omega)]
    ·rw[if_neg c1]
     by_cases c2:z<i+(p+1+1-(p+1))
     ·rw[if_pos c2]
      by_cases c3:z<i∨p+1≤z
      ·exfalso; omega
      ·rw[if_neg c3,if_pos (by omega),gs,if_pos (by omega)]; congr 1; omega
     ·rw[if_neg c2]
      by_cases c3:p+1≤z
      ·rw[if_pos (by omega),gs,if_neg (by omega),if_pos (by omega)]; congr 1; omega
      ·rw[if_neg (by omega),if_neg (by omega),gs,if_neg (by omega),if_neg (by omega)]; congr 1; omega
def qg (R:List (Nat × Nat)) (a m e:Nat):Prop:=∀ x y,a≤x→x<m→m≤y→y<e→(gd R x).1<(gd R y).1
theorem ia.same {R':List (Nat × Nat)} {s m e a c:Nat} (h:ia R R' s m e) (hsm:s≤m) (hme:m≤e) (ha:a≤s) (hc:e≤c):OY R R' a c:=by
 intro g
 constructor
 ·rintro ⟨x,a1,a2,rfl⟩
  rw[h x]
  split
  ·exact ⟨x,a1,a2,rfl⟩
  ·split
   ·exact ⟨x+(m-s),by omega,by omega,rfl⟩
   ·exact ⟨x-(e-m),by omega,by omega,rfl⟩
 ·rintro ⟨x,a1,a2,rfl⟩
  by_cases q:x<s∨e≤x
  ·exact ⟨x,a1,a2,by rw[h x,if_pos q]⟩
  ·by_cases q2:x<m
   ·exact ⟨x+(e-m),by omega,by omega,by rw[h _,if_neg (by omega),if_neg (by omega)]; congr 1; omega⟩
   ·exact ⟨x-(m-s),by omega,by omega,by rw[h _,if_neg (by omega),if_pos (by omega)]; congr 1; omega⟩
theorem ia.out {R':List (Nat × Nat)} {s m e a c:Nat} (h:ia R R' s m e) (ha:a≤s) (hc:e≤c):Ss R R' a c:=fun x hx=>by rw[h x,if_pos (by omega)]
theorem ia.tA {s m e:Nat} (h:s=m∨e=m):ia R R s m e:=fun z=>by
 split
 ·rfl
 ·split
  ·congr 1; omega
  ·congr 1; omega
theorem OY.trans {R1 R2 R3:List (Nat × Nat)} {a c:Nat} (h:OY R1 R2 a c) (g:OY R2 R3 a c):OY R1 R3 a c:=fun e=>(g e).trans (h e)
theorem Ss.trans {R1 R2 R3:List (Nat × Nat)} {a c:Nat} (h:Ss R1 R2 a c) (g:Ss R2 R3 a c):Ss R1 R3 a c:=fun x hx=>(g x hx).trans (h x hx)
theorem OY.wide {R':List (Nat × Nat)} {lo hi a c:Nat} (h:OY R R' lo hi) (o:Ss R R' lo hi) (ha:a≤lo) (hc:hi≤c):OY R R' a c:=by
 intro g
 constructor
 ·rintro ⟨x,a1,a2,rfl⟩
  by_cases q:lo≤x∧x<hi
  ·obtain ⟨y,y1,y2,hy⟩:=(h (gd R' x)).1 ⟨x,q.1,q.2,rfl⟩
   exact ⟨y,by omega,by omega,hy⟩
  ·exact ⟨x,a1,a2,(o x (by omega)).symm⟩
 ·rintro ⟨x,a1,a2,rfl⟩
  by_cases q:lo≤x∧x<hi
  ·obtain ⟨y,y1,y2,hy⟩:=(h (gd R x)).2 ⟨x,q.1,q.2,rfl⟩
   exact ⟨y,by omega,by omega,hy⟩
  ·exact ⟨x,a1,a2,o x (by omega)⟩
theorem Ss.wide {R':List (Nat × Nat)} {lo hi a c:Nat} (o:Ss R R' lo hi) (ha:a≤lo) (hc:hi≤c):Ss R R' a c:=fun x hx=>o x (by omega)
theorem Tg.join {a m c:Nat} (h1:Tg R a m) (h2:Tg R m c) (h3:∀ x y,a≤x→x<m→m≤y→y<c→XT (gd R x) (gd R y)):Tg R a c:=by
 intro x y a1 a2 a3
 by_cases q:y<m
 ·exact h1 x y a1 a2 q
 ·by_cases q2:m≤x
  ·exact h2 x y q2 a2 a3
  ·exact h3 x y a1 (by omega) (by omega) a3
theorem sq {R':List (Nat × Nat)} {a r c:Nat} (hs:Tg R (a+1) c) (hr1:a+1≤r) (hr2:r≤c) (hrot:ia R R' a (a+1) r) (p1:∀ x,a+1≤x→x<r→(gd R x).2<(gd R a).2) (p2:∀ x,r≤x→x<c→¬ (gd R x).2<(gd R a).2) (hc:qg R a (a+1) c):Tg R' a c:=by
 have key:∀ x,r≤x→x<c→XT (gd R a) (gd R x):=fun x h1 h2=>by
  have:=p2 x h1 h2
  have:=hc a x (Nat.le_refl _) (by omega) (by omega) h2
  unfold XT; omega
 intro x y a1 a2 a3
 rw[hrot x,hrot y]
 by_cases c1:r≤y
 ·rw[if_pos (show y<a∨r≤y from .inr c1)]
  by_cases c2:r≤x
  ·rw[if_pos (show x<a∨r≤x from .inr c2)]; exact hs x y (by omega) a2 a3
  ·rw[if_neg (by omega)]
   by_cases c3:x<a+(r-(a+1))
   ·rw[if_pos c3]; exact hs _ y (by omega) (by omega) a3
   ·rw[if_neg c3,show x-(r-(a+1))=a from by omega]; exact key y c1 a3
 ·rw[if_neg (show ¬ (x<a∨r≤x) by omega),if_neg (show ¬ (y<a∨r≤y) by omega),if_pos (show x<a+(r-(a+1)) by omega)]
  by_cases c3:y<a+(r-(a+1))
  ·rw[if_pos c3]; exact hs _ _ (by omega) (by omega) (by omega)
  ·rw[if_neg c3,show y-(r-(a+1))=a from by omega]; exact .inl (p1 _ (by omega) (by omega))
theorem sr {R':List (Nat × Nat)} {a r m:Nat} (hs:Tg R a m) (hr1:a≤r) (hr2:r≤m) (hrot:ia R R' r m (m+1)) (p1:∀ x,a≤x→x<r→¬ (gd R m).2<(gd R x).2) (p2:∀ x,r≤x→x<m→(gd R m).2<(gd R x).2) (hc:qg R a m (m+1)):Tg R' a (m+1):=by
 have key:∀ x,a≤x→x<r→XT (gd R x) (gd R m):=fun x h1 h2=>by
  have:=p1 x h1 h2
  have:=hc x m h1 (by omega) (Nat.le_refl _) (by omega)
  unfold XT; omega
 intro x y a1 a2 a3
 rw[hrot x,hrot y]
 by_cases c1:y<r
 ·rw[if_pos (by omega),if_pos (by omega)]; exact hs x y a1 a2 (by omega)
 ·rw[if_neg (show ¬ (y<r∨m+1≤y) by omega)]
  by_cases c2:x<r
  ·rw[if_pos (by omega)]
   by_cases c3:y<r+(m+1-m)
   ·rw[if_pos c3,show y+(m-r)=m from by omega]; exact key x a1 c2
   ·rw[if_neg c3]; exact hs x _ a1 (by omega) (by omega)
  ·rw[if_neg (show ¬ (x<r∨m+1≤x) by omega),if_neg (show ¬ y<r+(m+1-m) by omega)]
   by_cases c3:x<r+(m+1-m)
   ·rw[if_pos c3,show x+(m-r)=m from by omega]; exact .inl (p2 _ (by omega) (by omega))
   ·rw[if_neg c3]; exact hs _ _ (by omega) (by omega) (by omega)
theorem ss {R':List (Nat × Nat)} {a s m e c mid:Nat} (h1:Tg R a m) (h2:Tg R m c) (hc:qg R a m c) (has:a≤s) (hsm:s≤m) (hme:m≤e) (hec:e≤c) (hmid:mid=s+(e-m)) (hrot:ia R R' s m e)
  (p1:a<s→e<c→XT (gd R (s-1)) (gd R e)) (p2:s<m→m<e→XT (gd R (e-1)) (gd R s)):
  Tg R' a s∧Tg R' s mid∧qg R' a s mid∧Tg R' mid e∧Tg R' e c∧qg R' mid e c ∧ ∀ x y,a≤x→x<mid→mid≤y→y<c→XT (gd R' x) (gd R' y):=by
 have r1:∀ x,x<s→gd R' x=gd R x:=fun x hx=>by rw[hrot x,if_pos (.inl hx)]
 have r2:∀ x,s≤x→x<mid→gd R' x=gd R (x+(m-s)):=fun x h h'=>by rw[hrot x,if_neg (by omega),if_pos (by omega)]
 have r3:∀ x,mid≤x→x<e→gd R' x=gd R (x-(e-m)):=fun x h h'=>by rw[hrot x,if_neg (by omega),if_neg (by omega)]
 have r4:∀ x,e≤x→gd R' x=gd R x:=fun x hx=>by rw[hrot x,if_pos (.inr hx)]
 have k1:∀ x y,a≤x→x<s→e≤y→y<c→XT (gd R x) (gd R y):=fun x y x1 x2 y1 y2=>by
  have:=p1 (by omega) (by omega)
  have u1:XT (gd R x) (gd R e):=by
   by_cases q:x=s-1
   ·rw[q]; exact this
   ·exact (h1 x (s-1) x1 (by omega) (by omega)).trans this
  by_cases q:y=e
  ·rw[q]; exact u1
  ·exact u1.trans (h2 e y (by omega) (by omega) y2)
 have k2:∀ x y,m≤x→x<e→s≤y→y<m→XT (gd R x) (gd R y):=fun x y x1 x2 y1 y2=>by
  have:=p2 (by omega) (by omega)
  have u1:XT (gd R x) (gd R s):=by
   by_cases q:x=e-1
   ·rw[q]; exact this
   ·exact (h2 x (e-1) x1 (by omega) (by omega)).trans this
  by_cases q:y=s
  ·rw[q]; exact u1
  ·exact u1.trans (h1 s y has (by omega) y2)
 refine ⟨fun x y a1 a2 a3=>?_,fun x y a1 a2 a3=>?_,fun x y a1 a2 a3 a4=>?_,fun x y a1 a2 a3=>?_,fun x y a1 a2 a3=>?_,fun x y a1 a2 a3 a4=>?_,fun x y a1 a2 a3 a4=>?_⟩
 ·rw[r1 x (by omega),r1 y a3]; exact h1 x y a1 a2 (by omega)
 ·rw[r2 x a1 (by omega),r2 y (by omega) a3]; exact h2 _ _ (by omega) (by omega) (by omega)
 ·rw[r1 x a2,r2 y a3 a4]; exact hc x _ a1 (by omega) (by omega) (by omega)
 ·rw[r3 x a1 (by omega),r3 y (by omega) a3]; exact h1 _ _ (by omega) (by omega) (by omega)
 ·rw[r4 x a1,r4 y (by omega)]; exact h2 _ _ (by omega) a2 a3
 ·rw[r3 x a1 a2,r4 y a3]; exact hc _ y (by omega) (by omega) (by omega) a4
 ·by_cases q1:x<s
  ·rw[r1 x q1]
   by_cases q2:y<e
   ·rw[r3 y a3 q2]; exact h1 x _ a1 (by omega) (by omega)
   ·rw[r4 y (by omega)]; exact k1 x y a1 q1 (by omega) a4
  ·rw[r2 x (by omega) a2]
   by_cases q2:y<e
   ·rw[r3 y a3 q2]; exact k2 _ _ (by omega) (by omega) (by omega) (by omega)
   ·rw[r4 y (by omega)]; exact h2 _ y (by omega) (by omega) a4
theorem qg.of {R':List (Nat × Nat)} {a m e lo hi:Nat} (h:qg R a m e) (s:OY R R' lo hi) (o:Ss R R' lo hi) (hx:(a≤lo∧hi≤m)∨(m≤lo∧hi≤e)):qg R' a m e:=by
 have rep:∀ x,∃ y,gd R' x=gd R y∧((lo≤x∧x<hi∧lo≤y∧y<hi)∨((x<lo∨hi≤x)∧y=x)):=by
  intro x
  by_cases q:lo≤x∧x<hi
  ·obtain ⟨y,y1,y2,hy⟩:=(s (gd R' x)).1 ⟨x,q.1,q.2,rfl⟩
   exact ⟨y,hy.symm,.inl ⟨q.1,q.2,y1,y2⟩⟩
  ·exact ⟨x,o x (by omega),.inr ⟨by omega,rfl⟩⟩
 intro x y a1 a2 a3 a4
 obtain ⟨x',e1,hx'⟩:=rep x
 obtain ⟨y',e2,hy'⟩:=rep y
 rw[e1,e2]
 exact h x' y' (by omega) (by omega) (by omega) (by omega)
theorem Tg.CX {R':List (Nat × Nat)} {a c lo hi:Nat} (h:Tg R a c) (o:Ss R R' lo hi) (hx:c≤lo∨hi≤a):Tg R' a c:=fun x y a1 a2 a3=>by
 rw[o x (by omega),o y (by omega)]; exact h x y a1 a2 a3
set_option maxHeartbeats 2000000 in
theorem XU (hln:R.length≤3000):∀ (d K a m c:Nat) (σ:Aa) (R':List (Nat × Nat)),20000+d≤K→c-a≤d→a<m→m<c→c≤R.length→R'.length=R.length→G8 σ b R'→dm R'→Tg R' a m→Tg R' m c→qg R' a m c →
  ∃ σ' R'',Ax K (some ⟨b,0,none⟩,R.length,R.length) (a:Int) (m:Int) (c:Int) Q9 σ=some (.tuple #[],σ')∧G8 σ' b R''∧ZW R' R'' a c∧Fo b σ σ'
 | 0,K,a,m,c,σ,R',hK,hd,ham,hmc,hc,hl,h,hS,s1,s2,cr=>by omega
 | d+1,K,a,m,c,σ,R',hK,hd,ham,hmc,hc,hl,h,hS,s1,s2,cr=>by
   obtain ⟨k,rfl⟩:∃ k,K=k+3:=⟨K-3,by omega⟩
   have w1:Ad ((m:Int)-(a:Int))=(m:Int)-(a:Int):=Ac (by unfold AN; omega)
   have w2:Ad ((c:Int)-(m:Int))=(c:Int)-(m:Int):=Ac (by unfold AN; omega)
   rw[Me,HP]
   simp only[w1,w2]
   by_cases q1:m=a+1
   ·subst q1
    obtain ⟨τ,r,e1,r1,r2,r3,r4⟩:=cS (k+1) hln (a:=a) (lo:=a+1) (hi:=c) (by omega) hc hl hS (fun x y x1 x2 x3 hh=>by have:=s2.le x1 (Nat.le_of_lt x2) x3; omega) (c-(a+1)) (a+1) c (k+2) σ h (Nat.le_refl _) (by omega) (Nat.le_refl _) (by omega) (by omega) (fun x x1 x2=>by omega) (fun x x1 x2=>by omega)
    obtain ⟨σ2,R2,e2,g2,l2,t2,o2⟩:=jD (k+2) hln (e:=r) (by omega) (r-(a+1)) a (k+2) (σ++τ) R' hl (h.app τ) (by omega) (by omega)
    refine ⟨σ2,R2, ?_,g2,⟨l2.trans hl.symm,sq s2 r1 r2 t2 r3 r4 cr,t2.same (by omega) (by omega) (Nat.le_refl _) r2,t2.out (Nat.le_refl _) r2⟩,(Fo.app _ _).trans o2⟩
    rw[show (((a+1:Nat):Int)-(a:Int) == 1)=true from by simp; omega]
    simp only[cond_true,e1,Option.bind_some,if_true,Ds,e2]
   rw[show ((m:Int)-(a:Int) == 1)=false from by rw[beq_eq_false_iff_ne]; omega]
   simp only[cond_false]
   by_cases q2:c=m+1
   ·subst q2
    obtain ⟨τ,r,e1,r1,r2,r3,r4⟩:=cU (k+1) hln (a:=m) (lo:=a) (hi:=m) (by omega) (by omega) hl hS (fun x y x1 x2 x3 hh=>by have:=s1.le x1 (Nat.le_of_lt x2) x3; omega) (m-a) a m (k+2) σ h (Nat.le_refl _) (by omega) (Nat.le_refl _) (by omega) (by omega) (fun x x1 x2=>by omega) (fun x x1 x2=>by omega)
    obtain ⟨σ2,R2,e2,g2,l2,t2,o2⟩:=jE (k+2) hln (i:=r) (m-r) m (k+2) (σ++τ) R' hl (h.app τ) (by omega) (by omega) (by omega)
    refine ⟨σ2,R2, ?_,g2,⟨l2.trans hl.symm,sr s1 r1 r2 t2 r3 r4 cr,t2.same r2 (by omega) r1 (Nat.le_refl _),t2.out r1 (Nat.le_refl _)⟩,(Fo.app _ _).trans o2⟩
    rw[show (((m+1:Nat):Int)-(m:Int) == 1)=true from by simp; omega]
    simp only[cond_true,e1,Option.bind_some,if_true,Ds,e2]
   rw[show ((c:Int)-(m:Int) == 1)=false from by rw[beq_eq_false_iff_ne]; omega]
   simp only[cond_false]
   have hh:=az a c (by omega)
   obtain ⟨mid,hmid⟩:∃ mid,(a+c)/2=mid:=⟨_,rfl⟩
   rw[hmid] at hh
   have w3:Ad ((mid:Int)+(m:Int))=((mid+m:Nat):Int):=Ac (by unfold AN; omega)
   have w4:Ad (((mid+m:Nat):Int)-(c:Int))=(mid:Int)+(m:Int)-(c:Int):=by rw[Ac (by unfold AN; omega)]; omega
   have w5:Ad (((mid+m:Nat):Int)-1)=((mid+m-1:Nat):Int):=by rw[Ac (by unfold AN; omega)]; omega
   simp only[if_neg (show ¬ (1:Int)<0 by decide),hh,w3,w4,w5]
   obtain ⟨lo,hi,elh,hlo1,hlo2,hhi1,hhi2,hlh,hpc⟩:∃ lo hi:Nat,((bif decide ((m:Int)>(mid:Int)) then (some (Bm.normal,[Value.int .i64 ((mid:Int)+(m:Int)-(c:Int)),.int .i64 (mid:Int)],σ)) else (some (Bm.normal,[.int .i64 (a:Int),.int .i64 (m:Int)],σ)):Option Ay)=some (.normal,[.int .i64 (lo:Int),.int .i64 (hi:Int)],σ))∧a≤lo∧((lo=a∧m≤mid)∨mid+m-lo=c)∧(hi≤m∧hi≤mid)∧(hi=m∨hi=mid)∧lo≤hi ∧ ∀ x,lo≤x→x<hi→m≤mid+m-1-x∧mid+m-1-x<c∧x≤mid+m-1:=by
    by_cases q3:(m:Int)>(mid:Int)
    ·refine ⟨mid+m-c,mid, ?_,by omega,.inr (by omega),⟨by omega,by omega⟩,.inr rfl,by omega,fun x x1 x2=>by omega⟩
     rw[decide_eq_true q3,show ((mid+m-c:Nat):Int)=(mid:Int)+(m:Int)-(c:Int) from by omega]; rfl
    ·refine ⟨a,m, ?_,Nat.le_refl _,.inl ⟨rfl,by omega⟩,⟨Nat.le_refl _,by omega⟩,.inl rfl,by omega,fun x x1 x2=>by omega⟩
     rw[decide_eq_false q3]; rfl
   rw[elh]
   obtain ⟨τ,s,e1,r1,r2,r3,r4⟩:=cV (k+1) hln (p:=mid+m-1) (lo:=lo) (hi:=hi) (fun x x1 x2=>by have:=hpc x x1 x2; omega) (by omega) (by omega) hl hS (fun x y x1 x2 x3 hh=>by
    have u1:=s1.le (show a≤x by omega) (Nat.le_of_lt x2) (show y<m by omega)
    have u2:=hpc x x1 (by omega)
    have u3:=hpc y (by omega) x3
    have u4:=s2.le (show m≤mid+m-1-y by omega) (show mid+m-1-y≤mid+m-1-x by omega) (by omega)
    omega) (hi-lo) lo hi (k+2) σ h (Nat.le_refl _) hlh (Nat.le_refl _) (by omega) (by omega) (fun x x1 x2=>by omega) (fun x x1 x2=>by omega)
   obtain ⟨e,he⟩:∃ e,mid+m-s=e:=⟨_,rfl⟩
   have w6:Ad (((mid+m:Nat):Int)-(s:Int))=(e:Int):=by rw[Ac (by unfold AN; omega)]; omega
   have hme:m≤e:=by omega
   have hec:e≤c:=by
    rcases hlo2 with q | q <;> omega
   simp only[Option.bind_some,if_true,GS,e1,Ds,w6]
   have p1:a<s→e<c→XT (gd R' (s-1)) (gd R' e):=fun x1 x2=>by
    have u1:lo≤s-1:=by rcases hlo2 with q | q <;> omega
    have u2:=r3 (s-1) u1 (by omega)
    rw[show mid+m-1-(s-1)=e from by omega] at u2
    have u3:=cr (s-1) e (by omega) (by omega) hme x2
    unfold XT; omega
   have p2:s<m→m<e→XT (gd R' (e-1)) (gd R' s):=fun x1 x2=>by
    have u1:s<hi:=by rcases hhi2 with q | q <;> omega
    have u2:=r4 s (Nat.le_refl _) u1
    rw[show mid+m-1-s=e-1 from by omega] at u2
    exact .inl u2
   obtain ⟨σ2,R2,e2,g2,l2,t2,o2⟩:∃ σ2 R2,((bif decide ((s:Int)<(m:Int)) then some (decide ((m:Int)<(e:Int)),σ++τ) else some (false,σ++τ)).bind fun r65=>(bif r65.1 then ((Cm (k+2) (some ⟨b,0,none⟩,R.length,R.length) (s:Int) (m:Int) (e:Int) Q9 r65.2).bind fun r66=>UJ r66.1 (some (Bm.normal,[],r66.2))) else (some (Bm.normal,[],r65.2)):Option Ay))=some (.normal,[],σ2)∧G8 σ2 b R2∧R2.length=R.length∧ia R' R2 s m e∧Fo b (σ++τ) σ2:=by
    by_cases q3:s<m
    ·by_cases q4:m<e
     ·obtain ⟨σ2,R2,e2,g2,l2,t2,o2⟩:=nV k (by omega) hln q3 q4 (show e≤R.length by omega) (σ++τ) R' hl (h.app τ) Q9
      refine ⟨σ2,R2, ?_,g2,l2,t2,o2⟩
      simp only[decide_eq_true (show (s:Int)<(m:Int) by omega),cond_true,decide_eq_true (show (m:Int)<(e:Int) by omega),Option.bind_some,e2,JG]
     ·refine ⟨σ++τ,R', ?_,h.app τ,hl,ia.tA (.inr (by omega)),Fo.refl _⟩
      simp only[decide_eq_true (show (s:Int)<(m:Int) by omega),cond_true,decide_eq_false (show ¬ (m:Int)<(e:Int) by omega),Option.bind_some,cond_false]
    ·refine ⟨σ++τ,R', ?_,h.app τ,hl,ia.tA (.inl (by omega)),Fo.refl _⟩
     simp only[decide_eq_false (show ¬ (s:Int)<(m:Int) by omega),cond_false,Option.bind_some]
   have hsm:s≤m:=by omega
   have has:a≤s:=by omega
   obtain ⟨v1,v2,v3,v4,v5,v6,v7⟩:=ss s1 s2 cr has hsm hme hec (show mid=s+(e-m) by omega) t2 p1 p2
   have S2:dm R2:=hS.of (t2.same hsm hme has hec) (t2.out has hec)
   obtain ⟨σ3,R3,e3,g3,d3,o3⟩:∃ σ3 R3,((bif decide ((a:Int)<(s:Int)) then some (decide ((s:Int)<(mid:Int)),σ2) else some (false,σ2)).bind fun r68=>(bif r68.1 then ((Ax (k+2) (some ⟨b,0,none⟩,R.length,R.length) (a:Int) (s:Int) (mid:Int) Q9 r68.2).bind fun r69=>UJ r69.1 (some (Bm.normal,[],r69.2))) else (some (Bm.normal,[],r68.2)):Option Ay))=some (.normal,[],σ3)∧G8 σ3 b R3∧ZW R2 R3 a mid∧Fo b σ2 σ3:=by
    by_cases q3:a<s
    ·by_cases q4:s<mid
     ·obtain ⟨σ3,R3,e3,g3,d3,o3⟩:=XU hln d (k+2) a s mid σ2 R2 (by omega) (by omega) q3 q4 (by omega) l2 g2 S2 v1 v2 v3
      refine ⟨σ3,R3, ?_,g3,d3,o3⟩
      simp only[decide_eq_true (show (a:Int)<(s:Int) by omega),cond_true,decide_eq_true (show (s:Int)<(mid:Int) by omega),Option.bind_some,e3,JG]
     ·refine ⟨σ2,R2, ?_,g2,⟨rfl,fun x y a1 a2 a3=>v1 x y a1 a2 (by omega),fun _=>Iff.rfl,fun _ _=>rfl⟩,Fo.refl _⟩
      simp only[decide_eq_true (show (a:Int)<(s:Int) by omega),cond_true,decide_eq_false (show ¬ (s:Int)<(mid:Int) by omega),Option.bind_some,cond_false]
    ·refine ⟨σ2,R2, ?_,g2,⟨rfl,fun x y a1 a2 a3=>v2 x y (by omega) a2 a3,fun _=>Iff.rfl,fun _ _=>rfl⟩,Fo.refl _⟩
     simp only[decide_eq_false (show ¬ (a:Int)<(s:Int) by omega),cond_false,Option.bind_some]
   have S3:dm R3:=S2.of d3.set d3.out
   obtain ⟨σ4,R4,e4,g4,d4,o4⟩:∃ σ4 R4,((bif decide ((mid:Int)<(e:Int)) then some (decide ((e:Int)<(c:Int)),σ3) else some (false,σ3)).bind fun r71=>(bif r71.1 then ((Ax (k+2) (some ⟨b,0,none⟩,R.length,R.length) (mid:Int) (e:Int) (c:Int) Q9 r71.2).bind fun r72=>UJ r72.1 (some (Bm.normal,[],r72.2))) else (some (Bm.normal,[],r71.2)):Option Ay))=some (.normal,[],σ4)∧G8 σ4 b R4∧ZW R3 R4 mid c∧Fo b σ3 σ4:=by
    have v4':Tg R3 mid e:=v4.CX d3.out (.inr (Nat.le_refl _))
    have v5':Tg R3 e c:=v5.CX d3.out (.inr (by omega))
    have v6':qg R3 mid e c:=fun x y a1 a2 a3 a4=>by rw[d3.out x (by omega),d3.out y (by omega)]; exact v6 x y a1 a2 a3 a4
    by_cases q3:mid<e
    ·by_cases q4:e<c
     ·obtain ⟨σ4,R4,e4,g4,d4,o4⟩:=XU hln d (k+2) mid e c σ3 R3 (by omega) (by omega) q3 q4 hc (d3.len.trans l2) g3 S3 v4' v5' v6'
      refine ⟨σ4,R4, ?_,g4,d4,o4⟩
      simp only[decide_eq_true (show (mid:Int)<(e:Int) by omega),cond_true,decide_eq_true (show (e:Int)<(c:Int) by omega),Option.bind_some,e4,JG]
     ·refine ⟨σ3,R3, ?_,g3,⟨rfl,fun x y a1 a2 a3=>v4' x y a1 a2 (by omega),fun _=>Iff.rfl,fun _ _=>rfl⟩,Fo.refl _⟩
      simp only[decide_eq_true (show (mid:Int)<(e:Int) by omega),cond_true,decide_eq_false (show ¬ (e:Int)<(c:Int) by omega),Option.bind_some,cond_false]
    ·refine ⟨σ3,R3, ?_,g3,⟨rfl,fun x y a1 a2 a3=>v5' x y (by omega) a2 a3,fun _=>Iff.rfl,fun _ _=>rfl⟩,Fo.refl _⟩
     simp only[decide_eq_false (show ¬ (mid:Int)<(e:Int) by omega),cond_false,Option.bind_some]
   refine ⟨σ4,R4, ?_,g4,⟨d4.len.trans (d3.len.trans (l2.trans hl.symm)), ?_, ?_, ?_⟩,((((Fo.app _ _).trans o2).trans o3).trans o4)⟩
   ·rw[Option.bind_eq_some_iff] at e2 e3 e4
    obtain ⟨x2,e2,f2⟩:=e2
    obtain ⟨x3,e3,f3⟩:=e3
    obtain ⟨x4,e4,f4⟩:=e4
    simp only[e2,Option.bind_some,f2,if_true,e3,f3,e4,f4]
   ·refine Tg.join (m:=mid) (d3.srt.CX d4.out (.inl (Nat.le_refl _))) d4.srt fun x y a1 a2 a3 a4=>?_
    rw[d4.out x (by omega)]
    obtain ⟨y',y1,y2,hy⟩:=(d4.set (gd R4 y)).1 ⟨y,a3,a4,rfl⟩
    obtain ⟨x',x1,x2,hx⟩:=(d3.set (gd R3 x)).1 ⟨x,a1,a2,rfl⟩
    rw[← hy,← hx,d3.out y' (by omega)]
    exact v7 x' y' x1 x2 y1 y2
   ·exact ((t2.same hsm hme has hec).trans (d3.set.wide d3.out (Nat.le_refl _) (by omega))).trans (d4.set.wide d4.out (by omega) (Nat.le_refl _))
   ·exact ((t2.out has hec).trans (d3.out.wide (Nat.le_refl _) (by omega))).trans (d4.out.wide (by omega) (Nat.le_refl _))
end Go.Proofs.YtlaplcglpnlieaaGreat
end
section
namespace Go.Proofs.YtlaplcglpnlieaaGreat
open Go Go.AX
noncomputable local instance we:AK:=As
local instance uT:Kn:=⟨true⟩
variable {σ:Aa} {b:Nat} {R:List (Nat × Nat)}
def Cut (R:List (Nat × Nat)) (n p:Nat):Prop:=∀ x y,x<p→p≤y→y<n→(gd R x).1<(gd R y).1
theorem ZW.rep {R':List (Nat × Nat)} {lo hi:Nat} (h:ZW R R' lo hi) (x:Nat):∃ y,gd R' x=gd R y∧((lo≤x∧x<hi∧lo≤y∧y<hi)∨((x<lo∨hi≤x)∧y=x)):=by
 by_cases q:lo≤x∧x<hi
 ·obtain ⟨y,y1,y2,hy⟩:=(h.set (gd R' x)).1 ⟨x,q.1,q.2,rfl⟩
  exact ⟨y,hy.symm,.inl ⟨q.1,q.2,y1,y2⟩⟩
 ·exact ⟨x,h.out x (by omega),.inr ⟨by omega,rfl⟩⟩
theorem Cut.of {R':List (Nat × Nat)} {n p lo hi:Nat} (h:Cut R n p) (d:ZW R R' lo hi) (hp:p≤lo∨hi≤p) (hn:hi≤n):Cut R' n p:=by
 intro x y h1 h2 h3
 obtain ⟨x',e1,hx⟩:=d.rep x
 obtain ⟨y',e2,hy⟩:=d.rep y
 rw[e1,e2]
 exact h x' y' (by omega) (by omega) (by omega)
theorem ZW.whole {R':List (Nat × Nat)} {lo hi n:Nat} (d:ZW R R' lo hi) (hn:hi≤n):OY R R' 0 n:=d.set.wide d.out (Nat.zero_le _) hn
structure Yx (R:List (Nat × Nat)) (n c:Nat):Prop where
 srt:∀ p,c∣p→Tg R p (min n (p+c))
 cut:∀ p,c∣p→Cut R n p
theorem NH {c p q:Nat} (hp:c∣p) (hq:c∣q) (h:p<q):p+c≤q:=by
 obtain ⟨u,rfl⟩:=hp
 obtain ⟨v,rfl⟩:=hq
 have:u<v:=by
  rcases Nat.lt_or_ge u v with h' | h'
  ·exact h'
  ·have:=Nat.mul_le_mul_left c h'; omega
 have:=Nat.mul_le_mul_left c (show u+1≤v from this)
 rw[Nat.mul_add,Nat.mul_one] at this
 exact this
theorem jJ (k:Nat) (hk:5000≤k) (hln:R.length≤3000):∀ (f0 a f:Nat) (σ:Aa) (R':List (Nat × Nat)),R'.length=R.length→G8 σ b R'→dm R'→20∣a→a≤R.length→(∀ p,20∣p→p<a→Tg R' p (p+20))→(∀ p,20∣p→p≤a→Cut R' R.length p)→tF R' a R.length→R.length<a+f0→f0≤f →
  ∃ (σ':Aa) (R'':List (Nat × Nat)) (r:Nat),AR (k+2) f (some ⟨b,0,none⟩) R.length R.length ((R.length:Nat):Int) Q9 (a:Int) ((a+20:Nat):Int) σ=some (.exit 0,[.int .i64 (r:Int)],σ')∧G8 σ' b R''∧R''.length=R.length∧dm R''∧OY R' R'' 0 R.length∧20∣r∧r≤R.length∧R.length<r+20∧(∀ p,20∣p→p<r→Tg R'' p (p+20))∧(∀ p,20∣p→p≤r→Cut R'' R.length p)∧tF R'' r R.length∧Fo b σ σ'
 | f0,a,0,σ,R',hl,h,hS,hd,ha,j1,j2,j3,hf0,hf=>by omega
 | f0,a,f+1,σ,R',hl,h,hS,hd,ha,j1,j2,j3,hf0,hf=>by
   rw[EC,DF]
   by_cases q:a+20≤R.length
   ·obtain ⟨σ1,R1,e1,g1,d1,o1⟩:=pa k hk (a:=a) (c:=a+20) hln (by omega) q σ R' hl h hS (fun x y a1 a2 a3=>j3 x y a1 a2 (by omega))
    have w1:Ad (((a+20:Nat):Int)+20)=((a+20+20:Nat):Int):=Ac (by unfold AN; omega)
    have cutB:Cut R1 R.length (a+20):=fun x y x1 y1 y2=>by
     obtain ⟨x',u1,hx⟩:=d1.rep x
     rw[u1,d1.out y (by omega)]
     by_cases q2:x'<a
     ·exact j2 a hd (Nat.le_refl _) x' y q2 (by omega) y2
     ·exact j3 x' y (by omega) (by omega) y2
    obtain ⟨σ2,R2,r,e2,g2,l2,S2,s2,t1,t2,t3,t4,t5,t6,o2⟩:=jJ k hk hln (f0-1) (a+20) f σ1 R1 (d1.len.trans hl) g1 (hS.of d1.set d1.out) (by omega) q (fun p p1 p2=>by
     by_cases q2:p<a
     ·exact (j1 p p1 q2).CX d1.out (.inl (by omega))
     ·rw[show p=a from by omega]; exact d1.srt) (fun p p1 p2=>by
     by_cases q2:p≤a
     ·exact (j2 p p1 q2).of d1 (.inl q2) q
     ·rw[show p=a+20 from by omega]; exact cutB) (fun x y a1 a2 a3=>by rw[d1.out x (by omega),d1.out y (by omega)]; exact j3 x y (by omega) a2 a3) (by omega) (by omega)
    refine ⟨σ2,R2,r, ?_,g2,l2,S2,(d1.whole q).trans s2,t1,t2,t3,t4,t5,t6,o1.trans o2⟩
    simp only[decide_eq_true (show ((a+20:Nat):Int)≤((R.length:Nat):Int) by omega),cond_true,e1,Option.bind_some,JG,w1,e2]
   ·refine ⟨σ,R',a, ?_,h,hl,hS,fun _=>Iff.rfl,hd,ha,by omega,j1,j2,j3,Fo.refl _⟩
    simp only[decide_eq_false (show ¬ ((a+20:Nat):Int)≤((R.length:Nat):Int) by omega),cond_false]
theorem jL (k:Nat) (hk:30000≤k) (hln:R.length≤3000) {c:Nat} (hc:1≤c) (hc2:c≤6000):∀ (f0 a f:Nat) (σ:Aa) (R':List (Nat × Nat)),R'.length=R.length→G8 σ b R'→dm R'→2*c∣a→a≤R.length→(∀ p,2*c∣p→p<a→Tg R' p (p+2*c))→(∀ p,c∣p→a≤p→Tg R' p (min R.length (p+c)))→(∀ p,2*c∣p→p≤a→Cut R' R.length p)→(∀ p,c∣p→a≤p→Cut R' R.length p)→R.length<a+f0→f0≤f →
  ∃ (σ':Aa) (R'':List (Nat × Nat)) (r:Nat),Bn k f (some ⟨b,0,none⟩) R.length R.length ((R.length:Nat):Int) Q9 (c:Int) (a:Int) ((a+2*c:Nat):Int) σ=some (.exit 4,[.int .i64 (r:Int)],σ')∧G8 σ' b R''∧R''.length=R.length∧dm R''∧OY R' R'' 0 R.length∧2*c∣r∧r≤R.length∧R.length<r+2*c∧(∀ p,2*c∣p→p<r→Tg R'' p (p+2*c))∧(∀ p,c∣p→r≤p→Tg R'' p (min R.length (p+c)))∧(∀ p,2*c∣p→p≤r→Cut R'' R.length p)∧(∀ p,c∣p→r≤p→Cut R'' R.length p)∧Fo b σ σ'
 | f0,a,0,σ,R',hl,h,hS,hd,ha,j1,j2,j3,j4,hf0,hf=>by omega
 | f0,a,f+1,σ,R',hl,h,hS,hd,ha,j1,j2,j3,j4,hf0,hf=>by
   rw[GK,Fj]
   have hda:c∣a:=Nat.dvd_trans (Nat.dvd_mul_left c 2) hd
   by_cases q:a+2*c≤R.length
   ·have hdm:c∣a+c:=Nat.dvd_add hda (Nat.dvd_refl c)
    have hdb:2*c∣a+2*c:=Nat.dvd_add hd (Nat.dvd_refl _)
    have sA:=j2 a hda (Nat.le_refl _)
    have sB:=j2 (a+c) hdm (by omega)
    rw[show min R.length (a+c)=a+c from by omega] at sA
    rw[show min R.length (a+c+c)=a+2*c from by omega] at sB
    obtain ⟨σ1,R1,e1,g1,d1,o1⟩:=XU hln (2*c) k a (a+c) (a+2*c) σ R' (by omega) (by omega) (by omega) (by omega) q hl h hS sA sB (fun x y x1 x2 y1 y2=>j4 (a+c) hdm (by omega) x y x2 y1 (by omega))
    have w1:Ad ((a:Int)+(c:Int))=((a+c:Nat):Int):=Ac (by unfold AN; omega)
    have w2:Ad ((2:Int)*(c:Int))=((2*c:Nat):Int):=Ac (by unfold AN; omega)
    have w3:Ad (((a+2*c:Nat):Int)+((2*c:Nat):Int))=((a+2*c+2*c:Nat):Int):=Ac (by unfold AN; omega)
    obtain ⟨σ2,R2,r,e2,g2,l2,S2,s2,t1,t2,t3,t4,t5,t6,t7,o2⟩:=jL k hk hln hc hc2 (f0-1) (a+2*c) f σ1 R1 (d1.len.trans hl) g1 (hS.of d1.set d1.out) hdb q (fun p p1 p2=>by
     by_cases q2:p<a
     ·exact (j1 p p1 q2).CX d1.out (.inl (NH p1 hd q2))
     ·have:p=a:=by
       rcases Nat.eq_or_lt_of_le (Nat.le_of_not_lt q2) with e | e
       ·exact e.symm
       ·have:=NH hd p1 e; omega
      rw[this]; exact d1.srt) (fun p p1 p2=>(j2 p p1 (by omega)).CX d1.out (.inr p2)) (fun p p1 p2=>by
     by_cases q2:p≤a
     ·exact (j3 p p1 q2).of d1 (.inl q2) q
     ·have:=NH hd p1 (by omega)
      rw[show p=a+2*c from by omega]
      exact (j4 (a+2*c) (Nat.dvd_add hda (Nat.dvd_mul_left c 2)) (by omega)).of d1 (.inr (Nat.le_refl _)) q) (fun p p1 p2=>(j4 p p1 (by omega)).of d1 (.inr p2) q) (by omega) (by omega)
    refine ⟨σ2,R2,r, ?_,g2,l2,S2,(d1.whole q).trans s2,t1,t2,t3,t4,t5,t6,t7,o1.trans o2⟩
    simp only[decide_eq_true (show ((a+2*c:Nat):Int)≤((R.length:Nat):Int) by omega),cond_true,w1,e1,Option.bind_some,JG,w2,w3,e2]
   ·refine ⟨σ,R',a, ?_,h,hl,hS,fun _=>Iff.rfl,hd,ha,by omega,j1,j2,j3,j4,Fo.refl _⟩
    simp only[decide_eq_false (show ¬ ((a+2*c:Nat):Int)≤((R.length:Nat):Int) by omega),cond_false]
theorem jK (k:Nat) (hk:30000≤k) (hln:R.length≤3000):∀ (f0 c f:Nat) (σ:Aa) (R':List (Nat × Nat)),R'.length=R.length→G8 σ b R'→dm R'→1≤c→c≤6000→Yx R' R.length c→R.length≤c+f0→f0<f →
  ∃ (σ':Aa) (R'':List (Nat × Nat)),AU k f (some ⟨b,0,none⟩) R.length R.length ((R.length:Nat):Int) Q9 (c:Int) σ=some (.exit 2,[],σ')∧G8 σ' b R''∧R''.length=R.length∧OY R' R'' 0 R.length∧Tg R'' 0 R.length∧Fo b σ σ'
 | f0,c,0,σ,R',hl,h,hS,hc,hc2,hB,hf0,hf=>by omega
 | f0,c,f+1,σ,R',hl,h,hS,hc,hc2,hB,hf0,hf=>by
   rw[ED,DG]
   by_cases q:c<R.length
   ·have w2:Ad ((2:Int)*(c:Int))=((0+2*c:Nat):Int):=by rw[Ac (by unfold AN; omega)]; omega
    obtain ⟨σ1,R1,r,e1,g1,l1,S1,s1,t1,t2,t3,t4,t5,t6,t7,o1⟩:=jL k hk hln hc hc2 (R.length+1) 0 k σ R' hl h hS (Nat.dvd_zero _) (by omega) (fun p _ p2=>by omega) (fun p p1 _=>hB.srt p p1) (fun p p1 p2=>by
     rw[show p=0 from by omega]; exact hB.cut 0 (Nat.dvd_zero _)) (fun p p1 _=>hB.cut p p1) (by omega) (by omega)
    rw[show ((0:Nat):Int)=0 from rfl] at e1
    have hdr:c∣r:=Nat.dvd_trans (Nat.dvd_mul_left c 2) t1
    have w3:Ad ((r:Int)+(c:Int))=((r+c:Nat):Int):=Ac (by unfold AN; omega)
    obtain ⟨σ2,R2,e2,g2,d2,o2⟩:∃ σ2 R2,((bif decide (((r+c:Nat):Int)<((R.length:Nat):Int)) then ((Ax k (some ⟨b,0,none⟩,R.length,R.length) (r:Int) ((r+c:Nat):Int) ((R.length:Nat):Int) Q9 σ1).bind fun r8=>UJ r8.1 (some (Bm.normal,[],r8.2))) else (some (Bm.normal,[],σ1)):Option Ay))=some (.normal,[],σ2)∧G8 σ2 b R2∧ZW R1 R2 r R.length∧Fo b σ1 σ2:=by
     have sA:=t5 r hdr (Nat.le_refl _)
     by_cases q2:r+c<R.length
     ·have hdm:c∣r+c:=Nat.dvd_add hdr (Nat.dvd_refl c)
      have sB:=t5 (r+c) hdm (by omega)
      rw[show min R.length (r+c)=r+c from by omega] at sA
      rw[show min R.length (r+c+c)=R.length from by omega] at sB
      obtain ⟨σ2,R2,e2,g2,d2,o2⟩:=XU hln R.length k r (r+c) R.length σ1 R1 (by omega) (by omega) (by omega) q2 (Nat.le_refl _) l1 g1 S1 sA sB (fun x y x1 x2 y1 y2=>t7 (r+c) hdm (by omega) x y x2 y1 y2)
      refine ⟨σ2,R2, ?_,g2,d2,o2⟩
      simp only[decide_eq_true (show ((r+c:Nat):Int)<((R.length:Nat):Int) by omega),cond_true,e2,Option.bind_some,JG]
     ·rw[show min R.length (r+c)=R.length from by omega] at sA
      refine ⟨σ1,R1, ?_,g1,⟨rfl,sA,fun _=>Iff.rfl,fun _ _=>rfl⟩,Fo.refl _⟩
      simp only[decide_eq_false (show ¬ ((r+c:Nat):Int)<((R.length:Nat):Int) by omega),cond_false]
    have B2:Yx R2 R.length (2*c):=⟨fun p hp=>by
     rcases Nat.lt_trichotomy p r with h1 | h1 | h1
     ·have:=NH hp t1 h1
      rw[show min R.length (p+2*c)=p+2*c from by omega]
      exact (t4 p hp h1).CX d2.out (.inl this)
     ·rw[h1,show min R.length (r+2*c)=R.length from by omega]; exact d2.srt
     ·have:=NH t1 hp h1
      intro x y a1 a2 a3; omega,fun p hp=>by
     by_cases h1:p≤r
     ·exact (t6 p hp h1).of d2 (.inl h1) (Nat.le_refl _)
     ·have:=NH t1 hp (by omega)
      intro x y a1 a2 a3; omega⟩
    have w4:Ad ((c:Int)*2)=((2*c:Nat):Int):=by rw[Ac (by unfold AN; omega)]; omega
    obtain ⟨σ3,R3,e3,g3,l3,s3,t,o3⟩:=jK k hk hln (f0-1) (2*c) f σ2 R2 (d2.len.trans l1) g2 (S1.of d2.set d2.out) (by omega) (by omega) B2 (by omega) (by omega)
    refine ⟨σ3,R3, ?_,g3,l3,(s1.trans (d2.whole (Nat.le_refl _))).trans s3,t,(o1.trans o2).trans o3⟩
    simp only[decide_eq_true (show (c:Int)<((R.length:Nat):Int) by omega),cond_true,w2,e1,Option.bind_some,if_true,Ds,w3,e2,w4,e3]
   ·refine ⟨σ,R', ?_,h,hl,fun _=>Iff.rfl, ?_,Fo.refl _⟩
    ·simp only[decide_eq_false (show ¬ (c:Int)<((R.length:Nat):Int) by omega),cond_false]
    ·have:=hB.srt 0 (Nat.dvd_zero _)
     rw[show min R.length (0+c)=R.length from by omega] at this
     exact this
theorem re (k:Nat) (hk:40000≤k) (hln:R.length≤3000) (h:G8 σ b R) (hS:dm R) (hI:tF R 0 R.length):
  ∃ (σ':Aa) (R':List (Nat × Nat)),Bh (k+2) (some ⟨b,0,none⟩,R.length,R.length) Q9 σ=some (.tuple #[],σ')∧G8 σ' b R'∧R'.length=R.length∧OY R R' 0 R.length∧Tg R' 0 R.length∧Fo b σ σ':=by
 obtain ⟨k,rfl⟩:∃ k',k=k'+2:=⟨k-2,by omega⟩
 obtain ⟨σ1,R1,r,e1,g1,l1,S1,s1,t1,t2,t3,t4,t5,t6,o1⟩:=jJ k (by omega) hln (R.length+1) 0 (k+2) σ R rfl h hS (Nat.dvd_zero _) (by omega) (fun p _ p2=>by omega) (fun p _ p2 x y x1=>by omega) hI (by omega) (by omega)
 obtain ⟨σ2,R2,e2,g2,d2,o2⟩:=pa k (by omega) (a:=r) (c:=R.length) hln t2 (Nat.le_refl _) σ1 R1 l1 g1 S1 t6
 have B2:Yx R2 R.length 20:=⟨fun p hp=>by
  rcases Nat.lt_trichotomy p r with h1 | h1 | h1
  ·have:=NH hp t1 h1
   rw[show min R.length (p+20)=p+20 from by omega]
   exact (t4 p hp h1).CX d2.out (.inl this)
  ·rw[h1,show min R.length (r+20)=R.length from by omega]; exact d2.srt
  ·have:=NH t1 hp h1
   intro x y a1 a2 a3; omega,fun p hp=>by
  by_cases h1:p≤r
  ·exact (t5 p hp h1).of d2 (.inl h1) (Nat.le_refl _)
  ·have:=NH t1 hp (by omega)
   intro x y a1 a2 a3; omega⟩
 obtain ⟨σ3,R3,e3,g3,l3,s3,t,o3⟩:=jK (k+2) (by omega) hln R.length 20 (k+2) σ2 R2 (d2.len.trans l1) g2 (S1.of d2.set d2.out) (by decide) (by decide) B2 (by omega) (by omega)
 refine ⟨σ3,R3, ?_,g3,l3,(s1.trans (d2.whole (Nat.le_refl _))).trans s3,t,(o1.trans o2).trans o3⟩
 rw[show ((0:Nat):Int)=0 from rfl,show ((0+20:Nat):Int)=20 from rfl] at e1
 rw[show ((20:Nat):Int)=20 from rfl] at e3
 rw[EU,Eo,Fk,Ez]
 simp only[e1,Option.bind_some,if_true,Ds,e2,JG,e3]
theorem pV (k:Nat) (hk:10≤k) (σ:Aa):Bh (k+3) (none,0,0) Q9 σ=some (.tuple #[],σ):=by
 obtain ⟨k,rfl⟩:∃ k',k=k'+2:=⟨k-2,by omega⟩
 have e1:AR (k+3) (k+3) none 0 0 ((0:Nat):Int) Q9 0 20 σ=some (.exit 0,[.int .i64 0],σ):=by
  rw[EC,DF]
  simp only[decide_eq_false (show ¬ (20:Int)≤((0:Nat):Int) by decide),cond_false]
 have e2:A9 (k+3) (none,0,0) 0 ((0:Nat):Int) Q9 σ=some (.tuple #[],σ):=by
  rw[DY,CS,Dq,C1]
  simp only[show Ad (0+1)=1 from rfl,decide_eq_false (show ¬ (1:Int)<((0:Nat):Int) by decide),cond_false,Option.bind_some,if_true]
 have e3:AU (k+3) (k+3) none 0 0 ((0:Nat):Int) Q9 20 σ=some (.exit 2,[],σ):=by
  rw[ED,DG]
  simp only[decide_eq_false (show ¬ (20:Int)<((0:Nat):Int) by decide),cond_false]
 rw[EU,Eo,Fk,Ez]
 simp only[e1,Option.bind_some,if_true,Ds,e2,JG,e3]
def LS:List (Nat × Nat)→Option (Nat × Nat)
 | []=>none
 | g::l=>match LS l with
   | none=>some g
   | some h=>if h.2<g.2 then some h else some g
def ou (l:List (Nat × Nat)):Prop:=l.Pairwise fun g h=>g.1<h.1
theorem dO {l:List (Nat × Nat)} (h:LS l=none):l=[]:=by
 cases l with
 | nil=>rfl
 | cons g l=>
   unfold LS at h
   split at h
   ·cases h
   ·split at h <;> cases h
theorem bj:∀ {l:List (Nat × Nat)},ou l → ∀ {e},LS l=some e→e ∈ l ∧ ∀ g ∈ l,g=e∨XT e g
 | [],_,e,h=>by cases h
 | g::l,hi,e,h=>by
   have hp:=List.pairwise_cons.1 hi
   unfold LS at h
   cases hb:LS l with
   | none=>
     rw[hb] at h; cases h
     have:=dO hb; subst this
     exact ⟨by simp,fun g' hg=>.inl (by simpa using hg)⟩
   | some x=>
     rw[hb] at h
     obtain ⟨hx1,hx2⟩:=bj hp.2 hb
     dsimp only at h
     split at h
     ·rename_i q
      cases h
      refine ⟨List.mem_cons_of_mem _ hx1,fun g' hg=>?_⟩
      rcases List.mem_cons.1 hg with rfl | hg
      ·exact .inr (.inl q)
      ·exact hx2 g' hg
     ·rename_i q
      cases h
      refine ⟨List.mem_cons_self,fun g' hg=>?_⟩
      rcases List.mem_cons.1 hg with rfl | hg
      ·exact .inl rfl
      ·have h1:=hp.1 g' hg
       have h2:g.2≤g'.2:=by
        rcases hx2 g' hg with rfl | h3
        ·omega
        ·unfold XT at h3; omega
       exact .inr (by unfold XT; omega)
theorem mS {R R':List (Nat × Nat)} (hl:R'.length=R.length) (hI:ou R) (hs:OY R R' 0 R.length) (ht:Tg R' 0 R.length):R'.head?=LS R:=by
 cases hb:LS R with
 | none=>
   have:=dO hb
   subst this
   have:R'=[]:=List.length_eq_zero_iff.1 (by simpa using hl)
   rw[this]; rfl
 | some e=>
   obtain ⟨h1,h2⟩:=bj hI hb
   have hp:0<R.length:=List.length_pos_of_mem h1
   have hm:∀ x,x<R.length→gd R x ∈ R:=fun x hx=>by
    unfold gd
    rw[List.getD_eq_getElem?_getD,List.getElem?_eq_getElem hx]
    exact List.getElem_mem _
   obtain ⟨i,hi,he⟩:=List.mem_iff_getElem.1 h1
   have hge:gd R i=e:=by
    unfold gd
    rw[List.getD_eq_getElem?_getD,List.getElem?_eq_getElem hi]; exact he
   obtain ⟨y,y1,y2,hy⟩:=(hs e).2 ⟨i,by omega,hi,hge⟩
   have hh:R'.head?=some (gd R' 0):=by
    cases R' with
    | nil=>simp at hl; omega
    | cons g l=>rfl
   rw[hh]
   congr 1
   by_cases q:y=0
   ·rw[q] at hy; exact hy
   ·exfalso
    have l1:=ht 0 y (Nat.le_refl _) (by omega) y2
    rw[hy] at l1
    obtain ⟨z,z1,z2,hz⟩:=(hs (gd R' 0)).1 ⟨0,Nat.le_refl _,hp,rfl⟩
    rcases h2 (gd R z) (hm z z2) with h3 | h3
    ·rw[hz] at h3; rw[h3] at l1; unfold XT at l1; omega
    ·rw[hz] at h3; unfold XT at l1 h3; omega
theorem ZO {m:HM} {a:AS} {l l':List (Nat × Nat)} (h:l.head?=l'.head?):BQ m a l=BQ m a l':=by
 cases l with
 | nil=>
   cases l' with
   | nil=>rfl
   | cons g l'=>simp at h
 | cons g l=>
   cases l' with
   | nil=>simp at h
   | cons g' l'=>simp at h; subst h; rfl
variable {i:C9} {m:HM} {ab:Nat} {a:AS}
theorem ey (hI:Inv m) {e:Nat}:∀ (L:List Nat) (p:Nat),L.Pairwise (·<·)→(∀ j ∈ L,Start m j∧p≤2*j∧2*j+sz m j≤e)→p≤e →
  (EF m L p).1.Pairwise (fun g h=>g.1+g.2≤h.1∧g.1<h.1)∧(∀ g ∈ (EF m L p).1,p≤g.1∧g.1+g.2≤(EF m L p).2∧0<g.2)∧p≤(EF m L p).2∧(EF m L p).2≤e
 | [],p,_,_,hp=>⟨.nil,fun g hg=>by simp[EF] at hg,Nat.le_refl _,hp⟩
 | j::L,p,hs,hL,hp=>by
   obtain ⟨s1,s2,s3⟩:=hL j (by simp)
   have pc:=List.pairwise_cons.1 hs
   obtain ⟨r1,r2,r3,r4⟩:=ey hI L (2*j+sz m j) pc.2 (fun j' hj'=>by
    obtain ⟨t1,_,t3⟩:=hL j' (by simp[hj'])
    exact ⟨t1,hI.apart j j' s1 t1 (pc.1 j' hj'),t3⟩) s3
   have z:=(hI.size s1).1
   have g1:∀ g ∈ Jn p (2*j),g=(p,2*j-p)∧p<2*j:=fun g hg=>by
    unfold Jn at hg
    split at hg
    ·simp at hg; exact ⟨hg,by assumption⟩
    ·simp at hg
   simp only[EF]
   refine ⟨List.pairwise_append.2 ⟨?_,r1,fun g hg h hh=>?_⟩,fun g hg=>?_,by omega,r4⟩
   ·unfold Jn; split
    ·exact List.pairwise_singleton _ _
    ·exact .nil
   ·obtain ⟨rfl,q⟩:=g1 g hg
    have:=(r2 h hh).1
    dsimp only; omega
   ·rcases List.mem_append.1 hg with h | h
    ·obtain ⟨rfl,q⟩:=g1 g h
     dsimp only; omega
    ·have:=r2 g h; omega
theorem YS (hI:Inv m) (hI2:Inv2 m) (hw:m.wds.length=64*m.bls.length) (n:Nat) (hn:n<m.bls.length):(Ha m (n:Int)).Pairwise (fun g h=>g.1<h.1) ∧ ∀ g ∈ Ha m (n:Int),64*n≤g.1∧g.1+g.2≤64*n+64∧0<g.2:=by
 unfold Ha
 split
 ·rename_i hst
  have hst':(m.bls.getD n (0,0)).1=1:=by
   unfold Ji at hst
   rw[if_pos (by omega),Int.toNat_natCast] at hst; exact hst
  rw[Int.toNat_natCast]
  obtain ⟨r1,r2,r3,r4⟩:=ey hI (e:=64*n+64) (Ck m (32*n) 32) (64*n) ((List.pairwise_lt_range' (step:=1) (by decide)).filter _) (fun j hj=>by
   have hh:=JD.1 hj
   have hS:Start m j:=⟨by omega,hh.2.2⟩
   have:=(gu hI hI2 hst' hS hh.1 hh.2.1).2
   exact ⟨hS,by omega,by omega⟩) (by omega)
  have g1:∀ p q,∀ g ∈ Jn p q,g=(p,q-p)∧p<q:=fun p q g hg=>by
   unfold Jn at hg
   split at hg
   ·simp at hg; exact ⟨hg,by assumption⟩
   ·simp at hg
  unfold bS
  refine ⟨List.pairwise_append.2 ⟨r1.imp fun h=>h.2, ?_,fun g hg h hh=>?_⟩,fun g hg=>?_⟩
  ·unfold Jn; split
   ·exact List.pairwise_singleton _ _
   ·exact .nil
  ·obtain ⟨rfl,q⟩:=g1 _ _ h hh
   have:=r2 g hg
   dsimp only; omega
  ·rcases List.mem_append.1 hg with h | h
   ·have:=r2 g h; omega
   ·obtain ⟨rfl,q⟩:=g1 _ _ g h
    dsimp only; omega
 ·exact ⟨.nil,fun g hg=>by simp at hg⟩
theorem bT (hI:Inv m) (hI2:Inv2 m) (hw:m.wds.length=64*m.bls.length):∀ (L:List Nat),L.Pairwise (·<·)→(∀ b ∈ L,b<m.bls.length)→ou (EV m L)
 | [],_,_=>.nil
 | b::L,hs,hL=>by
   have pc:=List.pairwise_cons.1 hs
   unfold EV
   rw[List.flatMap_cons]
   refine List.pairwise_append.2 ⟨(YS hI hI2 hw b (hL b (by simp))).1,bT hI hI2 hw L pc.2 (fun b' hb'=>hL b' (by simp[hb'])),fun g hg h hh=>?_⟩
   have h1:=(YS hI hI2 hw b (hL b (by simp))).2 g hg
   obtain ⟨b',hb',hh'⟩:=List.mem_flatMap.1 hh
   have h2:=(YS hI hI2 hw b' (hL b' (by simp[hb']))).2 h hh'
   have:=pc.1 b' hb'
   omega
theorem bp (m:HM) (s:Int) (n:Nat):(Br m s n).Pairwise (·<·):=List.Pairwise.filter _ List.pairwise_lt_range
theorem YF {w:Nat} {g g':Nat × Nat} (h:KJ 0 w g=some g'):g'=g:=by
 unfold KJ at h
 split at h
 ·cases h
  obtain ⟨x,y⟩:=g
  dsimp only
  congr 1 <;> omega
 ·cases h
theorem nh (hI:Inv m) (hI2:Inv2 m) (hw:m.wds.length=64*m.bls.length) (s:Int) (w:Nat):ou (Cr m s 0 w):=by
 unfold Cr ou
 refine List.pairwise_filterMap.2 ((bT hI hI2 hw _ (bp m s _) fun b hb=>(RC.1 hb).1).imp fun {g h} hgh g' hg' h' hh'=>?_)
 rw[YF hg',YF hh']; exact hgh
theorem nj (hl:m.bls.length≤64) (s:Int) (w:Nat):∀ g ∈ Cr m s 0 w,g.1≤10000∧g.2≤10000:=by
 intro g hg
 unfold Cr at hg
 obtain ⟨g0,h0,hc⟩:=List.mem_filterMap.1 hg
 rw[YF hc]
 unfold EV at h0
 obtain ⟨b,_,hb⟩:=List.mem_flatMap.1 h0
 have:=XJ hl _ g0 hb
 omega
theorem ni (hl:m.bls.length≤64) (s:Int) (f w:Nat):(Cr m s f w).length≤64*33:=by
 unfold Cr
 refine Nat.le_trans (List.length_filterMap_le _ _) ?_
 unfold EV
 have hb:=KH m s m.bls.length
 have aux:∀ L:List Nat,(L.flatMap fun b:Nat=>Ha m (b:Int)).length≤L.length*33:=by
  intro L
  induction L with
  | nil=>simp
  | cons b L ih=>
    have:=Qn m (b:Int)
    rw[List.flatMap_cons,List.length_append,List.length_cons]; omega
 have:=aux (Br m s m.bls.length)
 omega
def mb (m:HM) (a:AS) (w:Nat):PR:=BQ m a (LS (Cr m a.s 0 w)).toList
theorem du (k:Nat) (hk:50000≤k) (h:Ah σ i m) (hA:Ch σ ab i a) (hab:ab ∉ i.l) (ho:a.ok) (hI:Inv m) (hI2:Inv2 m) (h0:B0 m) {w:Nat} (hw:1≤w∧w≤1000):
  dk (D2 (k+12) (DC ab) (w:Int) σ) σ i ab (mb m a w):=by
 have hnt:=h.nt
 obtain ⟨τ,s,e1,h1,lo1⟩:=ay (k+3) (by omega) (h.app [.cells [] Mq true]) (hA.app _) hI h0 (fr:=0) (by decide) hw
 obtain ⟨μ,hμ⟩:∃ μ,σ++[AY.cells [] Mq true]++τ=μ:=⟨_,rfl⟩
 rw[hμ] at e1 h1
 have H1:Ah μ i m:=hμ ▸ (h.app _).app _
 have A1:Ch μ ab i a:=hμ ▸ (hA.app _).app _
 have K1:Co i ab σ μ:=hμ ▸ (Co.app _ _).trans (Co.app _ _)
 have hlen:=ni (m:=m) hnt a.s 0 w
 have hinc:=nh hI hI2 h.wl a.s w
 have hsml:=nj (m:=m) hnt a.s w
 obtain ⟨μ2,l2,e2,H2,A2,K2,h2,hh⟩:∃ μ2 l2,Bh (k+11) (s.1,s.2.1,s.2.2) Q9 μ=some (.tuple #[],μ2)∧Ah μ2 i m∧Ch μ2 ab i a∧Co i ab σ μ2∧Cj Af 2 μ2 s l2.length (Bj l2)∧l2.head?=LS (Cr m a.s 0 w):=by
  generalize Cr m a.s 0 w=R at *
  rcases h1 with ⟨z1,z2,rfl⟩ | ⟨b,rfl,_,z3,z4⟩
  ·have:R=[]:=List.length_eq_zero_iff.1 z1
   subst this
   exact ⟨μ,[],pV (k+8) (by omega) μ,H1,A1,K1,.inl ⟨rfl,rfl,rfl⟩,rfl⟩
  ·have lob:=lo1 _ rfl
   simp at lob
   have hb1:b ∉ i.l:=fun hm=>by have:=h.lt _ hm; omega
   have hb2:b≠ab:=by have:=hA.lt; omega
   obtain ⟨μ2,R2,e2,g2,l2,s2,t2,o2⟩:=re (k+9) (by omega) (by omega) (show G8 μ b R from z4) (fun x=>by
    unfold gd
    rw[List.getD_eq_getElem?_getD]
    by_cases q:x<R.length
    ·rw[List.getElem?_eq_getElem q]; exact hsml _ (List.getElem_mem _)
    ·rw[List.getElem?_eq_none (by omega)]; decide) (fun x y x1 x2 x3=>by
    have:=List.pairwise_iff_getElem.1 hinc x y (by omega) x3 x2
    unfold gd
    rw[List.getD_eq_getElem?_getD,List.getD_eq_getElem?_getD,List.getElem?_eq_getElem x3,List.getElem?_eq_getElem (show x<R.length by omega)]
    exact this)
   refine ⟨μ2,R2,e2,H1.CX fun j hj=>o2.same j (H1.lt j hj) fun e=>hb1 (by rw[← e]; exact hj),A1.CX (o2.same _ A1.lt fun e=>hb2 e.symm),⟨Nat.le_trans K1.len o2.len,fun q hq q1 q2=>by
    rw[o2.same q (by have:=K1.len; omega) (by omega)]; exact K1.same q hq q1 q2⟩,.inr ⟨b,by rw[l2],Nat.zero_le _,MF _,g2⟩,mS l2 hinc s2 t2⟩
 obtain ⟨σ2,e3,g3,a3,k3⟩:=db (k+1) (by omega) H2 A2 hab ho h2
 have e1':AM (k+11) (DC ab) 0 (w:Int) (σ++[.cells [] Mq true])=_:=e1
 have e3':AP (k+11) (DC ab) (s.1,s.2.1,s.2.2) μ2=_:=e3
 have heq:BQ m a l2=mb m a w:=ZO (by rw[hh]; cases LS (Cr m a.s 0 w) <;> rfl)
 rw[← heq]
 refine ⟨σ2, ?_,g3,a3,K2.trans k3⟩
 rw[NY,Mw]
 simp only[Ao,e1',Option.bind_some,Hs,e2,JG,e3',TJ]
end Go.Proofs.YtlaplcglpnlieaaGreat
end
