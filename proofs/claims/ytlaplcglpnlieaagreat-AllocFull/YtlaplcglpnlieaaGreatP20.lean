/- symMerge and the stable sort of gaps.; The stable sort of gaps; the policy best. -/
import Derived.Test.YtlaplcglpnlieaaGreatP19
set_option linter.unusedVariables false
set_option linter.unusedSimpArgs false
set_option linter.unusedSectionVars false
section
namespace Go.Proofs.YtlaplcglpnlieaaGreat
open Go Go.AX
noncomputable local instance vz:AF:=Au
local instance uq:Kn:=⟨true⟩
variable {σ:Aa} {b:Nat} {R:List (Nat × Nat)}
theorem ZH (x y:Nat) (h:x+y≤100000):Ac ((u64 (Ac ((x:Int)+(y:Int)))).fdiv (2 ^ (min (1:Int).toNat 64)))=(((x+y)/2:Nat):Int):=by
 rw[Ad (show AW ((x:Int)+(y:Int)) by unfold AW; omega)]
 have e1:u64 ((x:Int)+(y:Int))=((x+y:Nat):Int):=by
  unfold u64
  have:=IntKind.wrap_u64 ((x:Int)+(y:Int))
  rw[this]; omega
 rw[e1,show (2:Int) ^ (min (1:Int).toNat 64)=2 from by decide,show (((x+y:Nat):Int)).fdiv 2=(((x+y)/2:Nat):Int) from by rw[Int.fdiv_eq_ediv_of_nonneg _ (by omega)]; omega]
 exact Ad (by unfold AW; omega)
theorem lz (e g:Nat × Nat):(!decide ((e.2:Int)-(g.2:Int)<0))=decide (¬ e.2<g.2):=by
 rw[jF]
 by_cases q:e.2<g.2
 ·rw[decide_eq_true q,decide_eq_false (fun h=>h q)]; rfl
 ·rw[decide_eq_false q,decide_eq_true q]; rfl
theorem SJ.le {lo hi:Nat} (h:SJ R lo hi) {x y:Nat} (h1:lo≤x) (h2:x≤y) (h3:y<hi):(gd R x).2≤(gd R y).2:=by
 rcases Nat.eq_or_lt_of_le h2 with rfl | h2
 ·exact Nat.le_refl _
 ·have:=h x y h1 h2 h3
  unfold Xy at this; omega
theorem ca (k:Nat) (hln:R.length≤3000) {a lo hi:Nat} (ha:a<R.length) (hhi:hi≤R.length) {R':List (Nat × Nat)} (hl:R'.length=R.length) (hS:cE R') (mono:∀ x y,lo≤x→x<y→y<hi→(gd R' y).2<(gd R' a).2→(gd R' x).2<(gd R' a).2):∀ (n i j f:Nat) (σ:Aa),G2 σ b R'→lo≤i→i≤j→j≤hi→j≤i+n→n<f→(∀ x,lo≤x→x<i→(gd R' x).2<(gd R' a).2)→(∀ x,j≤x→x<hi→¬ (gd R' x).2<(gd R' a).2) →
  ∃ (τ:Aa) (r:Nat),BB (k+1) f (some ⟨b,0,none⟩) R.length R.length (a:Int) Qk (i:Int) (j:Int) σ=some (.exit 0,[.int .i64 (r:Int)],σ++τ)∧lo≤r∧r≤hi∧(∀ x,lo≤x→x<r→(gd R' x).2<(gd R' a).2)∧(∀ x,r≤x→x<hi→¬ (gd R' x).2<(gd R' a).2)
 | n,i,j,0,σ,h,h1,h2,h3,hn,hf,p1,p2=>by omega
 | n,i,j,f+1,σ,h,h1,h2,h3,hn,hf,p1,p2=>by
   rw[KB,GM]
   by_cases q:i<j
   ·have hh:=ZH i j (by omega)
    obtain ⟨c,hc⟩:∃ c,(i+j)/2=c:=⟨_,rfl⟩
    rw[hc] at hh
    have q1:(0≤(c:Int)∧(c:Int)<((R.length:Nat):Int))=True:=eq_true (by omega)
    have q2:(0≤(a:Int)∧(a:Int)<((R.length:Nat):Int))=True:=eq_true (by omega)
    obtain ⟨l0,l1⟩:=h.ld (x:=c) (by omega)
    obtain ⟨l2,l3⟩:=h.ld (x:=a) (by omega)
    obtain ⟨τ,ec⟩:=fh k (gd R' c) (gd R' a) (hS _).2 (hS _).2 σ
    have w1:Ac ((c:Int)+1)=((c+1:Nat):Int):=Ad (by unfold AW; omega)
    simp only[decide_eq_true (show (i:Int)<(j:Int) by omega),cond_true,hh,q1,q2,if_true,if_neg (show ¬ (1:Int)<0 by decide),Option.bind_some,Int.toNat_natCast,Nat.zero_add,l0,l1,l2,l3,ec,Am,jF,w1]
    by_cases q3:(gd R' c).2<(gd R' a).2
    ·obtain ⟨τ2,r,e2,r1,r2,r3,r4⟩:=ca k hln ha hhi hl hS mono (n-1) (c+1) j f (σ++τ) (h.app τ) (by omega) (by omega) h3 (by omega) (by omega) (fun x x1 x2=>by
      by_cases q4:x=c
      ·rw[q4]; exact q3
      ·exact mono x c x1 (by omega) (by omega) q3) p2
     refine ⟨τ++τ2,r, ?_,r1,r2,r3,r4⟩
     simp only[decide_eq_true q3,cond_true,Option.bind_some,if_true,GK,e2,List.append_assoc]
    ·obtain ⟨τ2,r,e2,r1,r2,r3,r4⟩:=ca k hln ha hhi hl hS mono (n-1) i c f (σ++τ) (h.app τ) h1 (by omega) (by omega) (by omega) (by omega) p1 (fun x x1 x2 hh=>by
      by_cases q4:x=c
      ·rw[q4] at hh; exact q3 hh
      ·exact q3 (mono c x (by omega) (by omega) x2 hh))
     refine ⟨τ++τ2,r, ?_,r1,r2,r3,r4⟩
     simp only[decide_eq_false q3,cond_false,Option.bind_some,if_true,GK,e2,List.append_assoc]
   ·obtain rfl:i=j:=by omega
    refine ⟨[],i, ?_,h1,h3,p1,p2⟩
    simp only[decide_eq_false (Int.lt_irrefl _),cond_false,List.append_nil]
theorem cb (k:Nat) (hln:R.length≤3000) {a lo hi:Nat} (ha:a<R.length) (hhi:hi≤R.length) {R':List (Nat × Nat)} (hl:R'.length=R.length) (hS:cE R') (mono:∀ x y,lo≤x→x<y→y<hi→¬ (gd R' a).2<(gd R' y).2→¬ (gd R' a).2<(gd R' x).2):∀ (n i j f:Nat) (σ:Aa),G2 σ b R'→lo≤i→i≤j→j≤hi→j≤i+n→n<f→(∀ x,lo≤x→x<i→¬ (gd R' a).2<(gd R' x).2)→(∀ x,j≤x→x<hi→(gd R' a).2<(gd R' x).2) →
  ∃ (τ:Aa) (r:Nat),BF (k+1) f (some ⟨b,0,none⟩) R.length R.length (a:Int) Qk (i:Int) (j:Int) σ=some (.exit 4,[.int .i64 (r:Int)],σ++τ)∧lo≤r∧r≤hi∧(∀ x,lo≤x→x<r→¬ (gd R' a).2<(gd R' x).2)∧(∀ x,r≤x→x<hi→(gd R' a).2<(gd R' x).2)
 | n,i,j,0,σ,h,h1,h2,h3,hn,hf,p1,p2=>by omega
 | n,i,j,f+1,σ,h,h1,h2,h3,hn,hf,p1,p2=>by
   rw[KC,GN]
   by_cases q:i<j
   ·have hh:=ZH i j (by omega)
    obtain ⟨c,hc⟩:∃ c,(i+j)/2=c:=⟨_,rfl⟩
    rw[hc] at hh
    have q1:(0≤(c:Int)∧(c:Int)<((R.length:Nat):Int))=True:=eq_true (by omega)
    have q2:(0≤(a:Int)∧(a:Int)<((R.length:Nat):Int))=True:=eq_true (by omega)
    obtain ⟨l0,l1⟩:=h.ld (x:=c) (by omega)
    obtain ⟨l2,l3⟩:=h.ld (x:=a) (by omega)
    obtain ⟨τ,ec⟩:=fh k (gd R' a) (gd R' c) (hS _).2 (hS _).2 σ
    have w1:Ac ((c:Int)+1)=((c+1:Nat):Int):=Ad (by unfold AW; omega)
    simp only[decide_eq_true (show (i:Int)<(j:Int) by omega),cond_true,hh,q1,q2,if_true,if_neg (show ¬ (1:Int)<0 by decide),Option.bind_some,Int.toNat_natCast,Nat.zero_add,l0,l1,l2,l3,ec,Am,lz,w1]
    by_cases q3:¬ (gd R' a).2<(gd R' c).2
    ·obtain ⟨τ2,r,e2,r1,r2,r3,r4⟩:=cb k hln ha hhi hl hS mono (n-1) (c+1) j f (σ++τ) (h.app τ) (by omega) (by omega) h3 (by omega) (by omega) (fun x x1 x2=>by
      by_cases q4:x=c
      ·rw[q4]; exact q3
      ·exact mono x c x1 (by omega) (by omega) q3) p2
     refine ⟨τ++τ2,r, ?_,r1,r2,r3,r4⟩
     simp only[decide_eq_true q3,cond_true,Option.bind_some,if_true,GK,e2,List.append_assoc]
    ·obtain ⟨τ2,r,e2,r1,r2,r3,r4⟩:=cb k hln ha hhi hl hS mono (n-1) i c f (σ++τ) (h.app τ) h1 (by omega) (by omega) (by omega) (by omega) p1 (fun x x1 x2=>by
      by_cases q4:x=c
      ·rw[q4]; exact Decidable.not_not.1 q3
      ·exact Decidable.not_not.1 fun hh=>q3 (mono c x (by omega) (by omega) x2 hh))
     refine ⟨τ++τ2,r, ?_,r1,r2,r3,r4⟩
     simp only[decide_eq_false q3,cond_false,Option.bind_some,if_true,GK,e2,List.append_assoc]
   ·obtain rfl:i=j:=by omega
    refine ⟨[],i, ?_,h1,h3,p1,p2⟩
    simp only[decide_eq_false (Int.lt_irrefl _),cond_false,List.append_nil]
theorem cd (k:Nat) (hln:R.length≤3000) {p lo hi:Nat} (hp:∀ c,lo≤c→c<hi→c≤p∧p-c<R.length) (hp2:p≤10000) (hhi:hi≤R.length) {R':List (Nat × Nat)} (hl:R'.length=R.length) (hS:cE R') (mono:∀ x y,lo≤x→x<y→y<hi→¬ (gd R' (p-y)).2<(gd R' y).2→¬ (gd R' (p-x)).2<(gd R' x).2):∀ (n i j f:Nat) (σ:Aa),G2 σ b R'→lo≤i→i≤j→j≤hi→j≤i+n→n<f→(∀ x,lo≤x→x<i→¬ (gd R' (p-x)).2<(gd R' x).2)→(∀ x,j≤x→x<hi→(gd R' (p-x)).2<(gd R' x).2) →
  ∃ (τ:Aa) (r:Nat),BH (k+1) f (some ⟨b,0,none⟩) R.length R.length Qk (p:Int) (i:Int) (j:Int) σ=some (.exit 8,[.int .i64 (r:Int)],σ++τ)∧lo≤r∧r≤hi∧(∀ x,lo≤x→x<r→¬ (gd R' (p-x)).2<(gd R' x).2)∧(∀ x,r≤x→x<hi→(gd R' (p-x)).2<(gd R' x).2)
 | n,i,j,0,σ,h,h1,h2,h3,hn,hf,p1,p2=>by omega
 | n,i,j,f+1,σ,h,h1,h2,h3,hn,hf,p1,p2=>by
   rw[KD,GO]
   by_cases q:i<j
   ·have hh:=ZH i j (by omega)
    obtain ⟨c,hc⟩:∃ c,(i+j)/2=c:=⟨_,rfl⟩
    rw[hc] at hh
    obtain ⟨hp3,hp4⟩:=hp c (by omega) (by omega)
    have w0:Ac ((p:Int)-(c:Int))=((p-c:Nat):Int):=by rw[Ad (by unfold AW; omega)]; omega
    have q1:(0≤(c:Int)∧(c:Int)<((R.length:Nat):Int))=True:=eq_true (by omega)
    have q2:(0≤((p-c:Nat):Int)∧((p-c:Nat):Int)<((R.length:Nat):Int))=True:=eq_true (by omega)
    obtain ⟨l0,l1⟩:=h.ld (x:=c) (by omega)
    obtain ⟨l2,l3⟩:=h.ld (x:=p-c) (by omega)
    obtain ⟨τ,ec⟩:=fh k (gd R' (p-c)) (gd R' c) (hS _).2 (hS _).2 σ
    have w1:Ac ((c:Int)+1)=((c+1:Nat):Int):=Ad (by unfold AW; omega)
    simp only[decide_eq_true (show (i:Int)<(j:Int) by omega),cond_true,hh,w0,q1,q2,if_true,if_neg (show ¬ (1:Int)<0 by decide),Option.bind_some,Int.toNat_natCast,Nat.zero_add,l0,l1,l2,l3,ec,Am,lz,w1]
    by_cases q3:¬ (gd R' (p-c)).2<(gd R' c).2
    ·obtain ⟨τ2,r,e2,r1,r2,r3,r4⟩:=cd k hln hp hp2 hhi hl hS mono (n-1) (c+1) j f (σ++τ) (h.app τ) (by omega) (by omega) h3 (by omega) (by omega) (fun x x1 x2=>by
      by_cases q4:x=c
      ·rw[q4]; exact q3
      ·exact mono x c x1 (by omega) (by omega) q3) p2
     refine ⟨τ++τ2,r, ?_,r1,r2,r3,r4⟩
     simp only[decide_eq_true q3,cond_true,Option.bind_some,if_true,GK,e2,List.append_assoc]
    ·obtain ⟨τ2,r,e2,r1,r2,r3,r4⟩:=cd k hln hp hp2 hhi hl hS mono (n-1) i c f (σ++τ) (h.app τ) h1 (by omega) (by omega) (by omega) (by omega) p1 (fun x x1 x2=>by
      by_cases q4:x=c
      ·rw[q4]; exact Decidable.not_not.1 q3
      ·exact Decidable.not_not.1 fun hh=>q3 (mono c x (by omega) (by omega) x2 hh))
     refine ⟨τ++τ2,r, ?_,r1,r2,r3,r4⟩
     simp only[decide_eq_false q3,cond_false,Option.bind_some,if_true,GK,e2,List.append_assoc]
   ·obtain rfl:i=j:=by omega
    refine ⟨[],i, ?_,h1,h3,p1,p2⟩
    simp only[decide_eq_false (Int.lt_irrefl _),cond_false,List.append_nil]
theorem iS (k:Nat) (hln:R.length≤3000) {e:Nat} (he:e≤R.length):∀ (n x f:Nat) (σ:Aa) (R':List (Nat × Nat)),R'.length=R.length→G2 σ b R'→x+1+n=e→n<f →
  ∃ σ' R'',BE k f (some ⟨b,0,none⟩) R.length R.length (e:Int) (x:Int) σ=some (.exit 2,[],σ')∧G2 σ' b R''∧R''.length=R.length∧gv R' R'' x (x+1) e∧Fm b σ σ'
 | n,x,0,σ,R',hl,h,hx,hf=>by omega
 | 0,x,f+1,σ,R',hl,h,hx,hf=>by
   have w1:Ac ((e:Int)-1)=(x:Int):=by rw[Ad (by unfold AW; omega)]; omega
   rw[Gp,EJ]
   refine ⟨σ,R',by simp only[w1,decide_eq_false (Int.lt_irrefl _),cond_false],h,hl,fun z=>?_,Fm.refl _⟩
   split
   ·rfl
   ·rw[if_neg (by omega)]; congr 1; omega
 | n+1,x,f+1,σ,R',hl,h,hx,hf=>by
   have w1:Ac ((e:Int)-1)=(e:Int)-1:=Ad (by unfold AW; omega)
   have w2:Ac ((x:Int)+1)=((x+1:Nat):Int):=Ad (by unfold AW; omega)
   have q1:(0≤((x+1:Nat):Int)∧((x+1:Nat):Int)<((R.length:Nat):Int))=True:=eq_true (by omega)
   have q2:(0≤(x:Int)∧(x:Int)<((R.length:Nat):Int))=True:=eq_true (by omega)
   obtain ⟨l0,l1⟩:=h.ld (x:=x+1) (by omega)
   obtain ⟨l2,l3⟩:=h.ld (x:=x) (by omega)
   obtain ⟨σ1,σ2,e1,e2,g2,o2⟩:=h.sw (x:=x) (y:=x+1) (by omega) (by omega)
   obtain ⟨σ3,R3,e3,g3,l3',d3,o3⟩:=iS k hln he n (x+1) f σ2 (sw R' x (x+1)) (by rw[cp]; exact hl) g2 (by omega) (by omega)
   refine ⟨σ3,R3, ?_,g3,l3',fun z=>?_,o2.trans o3⟩
   ·rw[Gp,EJ]
    simp only[w1,decide_eq_true (show (x:Int)<(e:Int)-1 by omega),cond_true,w2,q1,q2,if_true,Option.bind_some,Int.toNat_natCast,Nat.zero_add,l0,l1,l2,l3,e1,e2,e3]
   ·have gs:∀ z,gd (sw R' x (x+1)) z=if z=x+1 then gd R' x else if z=x then gd R' (x+1) else gd R' z:=fun z=>gZ _ _ _ _ (by omega) (by omega)
    rw[d3 z]
    by_cases c1:z<x∨e≤z
    ·rw[if_pos c1,if_pos (by omega),gs,if_neg (by omega),if_neg (by omega)]
    ·rw[if_neg c1]
     by_cases c2:z=x
     ·rw[if_pos (by omega),if_pos (by omega),gs,if_neg (by omega),if_pos c2]; congr 1; omega
     ·rw[if_neg (by omega)]
      by_cases c3:z<x+1+(e-(x+1+1))
      ·rw[if_pos c3,if_pos (by omega),gs,if_neg (by omega),if_neg (by omega)]; congr 1; omega
      ·rw[if_neg c3,if_neg (by omega),gs,if_pos (by omega)]; congr 1; omega
theorem iT (k:Nat) (hln:R.length≤3000) {i:Nat}:∀ (n x f:Nat) (σ:Aa) (R':List (Nat × Nat)),R'.length=R.length→G2 σ b R'→x<R.length→i+n=x→n<f →
  ∃ σ' R'',BG k f (some ⟨b,0,none⟩) R.length R.length (i:Int) (x:Int) σ=some (.exit 6,[],σ')∧G2 σ' b R''∧R''.length=R.length∧gv R' R'' i x (x+1)∧Fm b σ σ'
 | n,x,0,σ,R',hl,h,hxl,hx,hf=>by omega
 | 0,x,f+1,σ,R',hl,h,hxl,hx,hf=>by
   rw[Gq,EK]
   refine ⟨σ,R',by simp only[decide_eq_false (show ¬ (x:Int)>(i:Int) by omega),cond_false],h,hl,fun z=>?_,Fm.refl _⟩
   split
   ·rfl
   ·rw[if_pos (by omega)]; congr 1; omega
 | n+1,x,f+1,σ,R',hl,h,hxl,hx,hf=>by
   obtain ⟨p,rfl⟩:∃ p,x=p+1:=⟨x-1,by omega⟩
   have w2:Ac (((p+1:Nat):Int)-1)=(p:Int):=by rw[Ad (by unfold AW; omega)]; omega
   have q1:(0≤((p+1:Nat):Int)∧((p+1:Nat):Int)<((R.length:Nat):Int))=True:=eq_true (by omega)
   have q2:(0≤(p:Int)∧(p:Int)<((R.length:Nat):Int))=True:=eq_true (by omega)
   obtain ⟨l0,l1⟩:=h.ld (x:=p+1) (by omega)
   obtain ⟨l2,l3⟩:=h.ld (x:=p) (by omega)
   obtain ⟨σ1,σ2,e1,e2,g2,o2⟩:=h.sw (x:=p+1) (y:=p) (by omega) (by omega)
   obtain ⟨σ3,R3,e3,g3,l3',d3,o3⟩:=iT k (i:=i) hln n p f σ2 (sw R' (p+1) p) (by rw[cp]; exact hl) g2 (by omega) (by omega) (by omega)
   refine ⟨σ3,R3, ?_,g3,l3',fun z=>?_,o2.trans o3⟩
   ·rw[Gq,EK]
    simp only[decide_eq_true (show ((p+1:Nat):Int)>(i:Int) by omega),cond_true,w2,q1,q2,if_true,Option.bind_some,Int.toNat_natCast,Nat.zero_add,l0,l1,l2,l3,e1,e2,e3]
   ·have gs:∀ z,gd (sw R' (p+1) p) z=if z=p then gd R' (p+1) else if z=p+1 then gd R' p else gd R' z:=fun z=>gZ _ _ _ _ (by omega) (by omega)
    rw[d3 z]
    by_cases c1:z<i∨p+1+1≤z
    ·rw[if_pos c1,if_pos (by omega),gs,if_neg (by omega),if_neg (by omega)]
    ·rw[if_neg c1]
     by_cases c2:z<i+(p+1+1-(p+1))
     ·rw[if_pos c2]
      by_cases c3:z<i∨p+1≤z
      ·exfalso; omega
      ·rw[if_neg c3,if_pos (by omega),gs,if_pos (by omega)]; congr 1; omega
     ·rw[if_neg c2]
      by_cases c3:p+1≤z
      ·rw[if_pos (by omega),gs,if_neg (by omega),if_pos (by omega)]; congr 1; omega
      ·rw[if_neg (by omega),if_neg (by omega),gs,if_neg (by omega),if_neg (by omega)]; congr 1; omega
def py (R:List (Nat × Nat)) (a m e:Nat):Prop:=∀ x y,a≤x→x<m→m≤y→y<e→(gd R x).1<(gd R y).1
theorem gv.same {R':List (Nat × Nat)} {s m e a c:Nat} (h:gv R R' s m e) (hsm:s≤m) (hme:m≤e) (ha:a≤s) (hc:e≤c):OA R R' a c:=by
 intro g
 constructor
 ·rintro ⟨x,a1,a2,rfl⟩
  rw[h x]
  split
  ·exact ⟨x,a1,a2,rfl⟩
  ·split
   ·exact ⟨x+(m-s),by omega,by omega,rfl⟩
   ·exact ⟨x-(e-m),by omega,by omega,rfl⟩
 ·rintro ⟨x,a1,a2,rfl⟩
  by_cases q:x<s∨e≤x
  ·exact ⟨x,a1,a2,by rw[h x,if_pos q]⟩
  ·by_cases q2:x<m
   ·exact ⟨x+(e-m),by omega,by omega,by rw[h _,if_neg (by omega),if_neg (by omega)]; congr 1; omega⟩
   ·exact ⟨x-(m-s),by omega,by omega,by rw[h _,if_neg (by omega),if_pos (by omega)]; congr 1; omega⟩
theorem gv.out {R':List (Nat × Nat)} {s m e a c:Nat} (h:gv R R' s m e) (ha:a≤s) (hc:e≤c):RT R R' a c:=fun x hx=>by rw[h x,if_pos (by omega)]
theorem gv.sR {s m e:Nat} (h:s=m∨e=m):gv R R s m e:=fun z=>by
 split
 ·rfl
 ·split
  ·congr 1; omega
  ·congr 1; omega
theorem OA.trans {R1 R2 R3:List (Nat × Nat)} {a c:Nat} (h:OA R1 R2 a c) (g:OA R2 R3 a c):OA R1 R3 a c:=fun e=>(g e).trans (h e)
theorem RT.trans {R1 R2 R3:List (Nat × Nat)} {a c:Nat} (h:RT R1 R2 a c) (g:RT R2 R3 a c):RT R1 R3 a c:=fun x hx=>(g x hx).trans (h x hx)
theorem OA.wide {R':List (Nat × Nat)} {lo hi a c:Nat} (h:OA R R' lo hi) (o:RT R R' lo hi) (ha:a≤lo) (hc:hi≤c):OA R R' a c:=by
 intro g
 constructor
 ·rintro ⟨x,a1,a2,rfl⟩
  by_cases q:lo≤x∧x<hi
  ·obtain ⟨y,y1,y2,hy⟩:=(h (gd R' x)).1 ⟨x,q.1,q.2,rfl⟩
   exact ⟨y,by omega,by omega,hy⟩
  ·exact ⟨x,a1,a2,(o x (by omega)).symm⟩
 ·rintro ⟨x,a1,a2,rfl⟩
  by_cases q:lo≤x∧x<hi
  ·obtain ⟨y,y1,y2,hy⟩:=(h (gd R x)).2 ⟨x,q.1,q.2,rfl⟩
   exact ⟨y,by omega,by omega,hy⟩
  ·exact ⟨x,a1,a2,o x (by omega)⟩
theorem RT.wide {R':List (Nat × Nat)} {lo hi a c:Nat} (o:RT R R' lo hi) (ha:a≤lo) (hc:hi≤c):RT R R' a c:=fun x hx=>o x (by omega)
theorem SJ.join {a m c:Nat} (h1:SJ R a m) (h2:SJ R m c) (h3:∀ x y,a≤x→x<m→m≤y→y<c→Xy (gd R x) (gd R y)):SJ R a c:=by
 intro x y a1 a2 a3
 by_cases q:y<m
 ·exact h1 x y a1 a2 q
 ·by_cases q2:m≤x
  ·exact h2 x y q2 a2 a3
  ·exact h3 x y a1 (by omega) (by omega) a3
theorem rG {R':List (Nat × Nat)} {a r c:Nat} (hs:SJ R (a+1) c) (hr1:a+1≤r) (hr2:r≤c) (hrot:gv R R' a (a+1) r) (p1:∀ x,a+1≤x→x<r→(gd R x).2<(gd R a).2) (p2:∀ x,r≤x→x<c→¬ (gd R x).2<(gd R a).2) (hc:py R a (a+1) c):SJ R' a c:=by
 have key:∀ x,r≤x→x<c→Xy (gd R a) (gd R x):=fun x h1 h2=>by
  have:=p2 x h1 h2
  have:=hc a x (Nat.le_refl _) (by omega) (by omega) h2
  unfold Xy; omega
 intro x y a1 a2 a3
 rw[hrot x,hrot y]
 by_cases c1:r≤y
 ·rw[if_pos (show y<a∨r≤y from .inr c1)]
  by_cases c2:r≤x
  ·rw[if_pos (show x<a∨r≤x from .inr c2)]; exact hs x y (by omega) a2 a3
  ·rw[if_neg (by omega)]
   by_cases c3:x<a+(r-(a+1))
   ·rw[if_pos c3]; exact hs _ y (by omega) (by omega) a3
   ·rw[if_neg c3,show x-(r-(a+1))=a from by omega]; exact key y c1 a3
 ·rw[if_neg (show ¬ (x<a∨r≤x) by omega),if_neg (show ¬ (y<a∨r≤y) by omega),if_pos (show x<a+(r-(a+1)) by omega)]
  by_cases c3:y<a+(r-(a+1))
  ·rw[if_pos c3]; exact hs _ _ (by omega) (by omega) (by omega)
  ·rw[if_neg c3,show y-(r-(a+1))=a from by omega]; exact .inl (p1 _ (by omega) (by omega))
theorem rH {R':List (Nat × Nat)} {a r m:Nat} (hs:SJ R a m) (hr1:a≤r) (hr2:r≤m) (hrot:gv R R' r m (m+1)) (p1:∀ x,a≤x→x<r→¬ (gd R m).2<(gd R x).2) (p2:∀ x,r≤x→x<m→(gd R m).2<(gd R x).2) (hc:py R a m (m+1)):SJ R' a (m+1):=by
 have key:∀ x,a≤x→x<r→Xy (gd R x) (gd R m):=fun x h1 h2=>by
  have:=p1 x h1 h2
  have:=hc x m h1 (by omega) (Nat.le_refl _) (by omega)
  unfold Xy; omega
 intro x y a1 a2 a3
 rw[hrot x,hrot y]
 by_cases c1:y<r
 ·rw[if_pos (by omega),if_pos (by omega)]; exact hs x y a1 a2 (by omega)
 ·rw[if_neg (show ¬ (y<r∨m+1≤y) by omega)]
  by_cases c2:x<r
  ·rw[if_pos (by omega)]
   by_cases c3:y<r+(m+1-m)
   ·rw[if_pos c3,show y+(m-r)=m from by omega]; exact key x a1 c2
   ·rw[if_neg c3]; exact hs x _ a1 (by omega) (by omega)
  ·rw[if_neg (show ¬ (x<r∨m+1≤x) by omega),if_neg (show ¬ y<r+(m+1-m) by omega)]
   by_cases c3:x<r+(m+1-m)
   ·rw[if_pos c3,show x+(m-r)=m from by omega]; exact .inl (p2 _ (by omega) (by omega))
   ·rw[if_neg c3]; exact hs _ _ (by omega) (by omega) (by omega)
theorem rI {R':List (Nat × Nat)} {a s m e c mid:Nat} (h1:SJ R a m) (h2:SJ R m c) (hc:py R a m c) (has:a≤s) (hsm:s≤m) (hme:m≤e) (hec:e≤c) (hmid:mid=s+(e-m)) (hrot:gv R R' s m e)
  (p1:a<s→e<c→Xy (gd R (s-1)) (gd R e)) (p2:s<m→m<e→Xy (gd R (e-1)) (gd R s)):
  SJ R' a s∧SJ R' s mid∧py R' a s mid∧SJ R' mid e∧SJ R' e c∧py R' mid e c ∧ ∀ x y,a≤x→x<mid→mid≤y→y<c→Xy (gd R' x) (gd R' y):=by
 have r1:∀ x,x<s→gd R' x=gd R x:=fun x hx=>by rw[hrot x,if_pos (.inl hx)]
 have r2:∀ x,s≤x→x<mid→gd R' x=gd R (x+(m-s)):=fun x h h'=>by rw[hrot x,if_neg (by omega),if_pos (by omega)]
 have r3:∀ x,mid≤x→x<e→gd R' x=gd R (x-(e-m)):=fun x h h'=>by rw[hrot x,if_neg (by omega),if_neg (by omega)]
 have r4:∀ x,e≤x→gd R' x=gd R x:=fun x hx=>by rw[hrot x,if_pos (.inr hx)]
 have k1:∀ x y,a≤x→x<s→e≤y→y<c→Xy (gd R x) (gd R y):=fun x y x1 x2 y1 y2=>by
  have:=p1 (by omega) (by omega)
  have u1:Xy (gd R x) (gd R e):=by
   by_cases q:x=s-1
   ·rw[q]; exact this
   ·exact (h1 x (s-1) x1 (by omega) (by omega)).trans this
  by_cases q:y=e
  ·rw[q]; exact u1
  ·exact u1.trans (h2 e y (by omega) (by omega) y2)
 have k2:∀ x y,m≤x→x<e→s≤y→y<m→Xy (gd R x) (gd R y):=fun x y x1 x2 y1 y2=>by
  have:=p2 (by omega) (by omega)
  have u1:Xy (gd R x) (gd R s):=by
   by_cases q:x=e-1
   ·rw[q]; exact this
   ·exact (h2 x (e-1) x1 (by omega) (by omega)).trans this
  by_cases q:y=s
  ·rw[q]; exact u1
  ·exact u1.trans (h1 s y has (by omega) y2)
 refine ⟨fun x y a1 a2 a3=>?_,fun x y a1 a2 a3=>?_,fun x y a1 a2 a3 a4=>?_,fun x y a1 a2 a3=>?_,fun x y a1 a2 a3=>?_,fun x y a1 a2 a3 a4=>?_,fun x y a1 a2 a3 a4=>?_⟩
 ·rw[r1 x (by omega),r1 y a3]; exact h1 x y a1 a2 (by omega)
 ·rw[r2 x a1 (by omega),r2 y (by omega) a3]; exact h2 _ _ (by omega) (by omega) (by omega)
 ·rw[r1 x a2,r2 y a3 a4]; exact hc x _ a1 (by omega) (by omega) (by omega)
 ·rw[r3 x a1 (by omega),r3 y (by omega) a3]; exact h1 _ _ (by omega) (by omega) (by omega)
 ·rw[r4 x a1,r4 y (by omega)]; exact h2 _ _ (by omega) a2 a3
 ·rw[r3 x a1 a2,r4 y a3]; exact hc _ y (by omega) (by omega) (by omega) a4
 ·by_cases q1:x<s
  ·rw[r1 x q1]
   by_cases q2:y<e
   ·rw[r3 y a3 q2]; exact h1 x _ a1 (by omega) (by omega)
   ·rw[r4 y (by omega)]; exact k1 x y a1 q1 (by omega) a4
  ·rw[r2 x (by omega) a2]
   by_cases q2:y<e
   ·rw[r3 y a3 q2]; exact k2 _ _ (by omega) (by omega) (by omega) (by omega)
   ·rw[r4 y (by omega)]; exact h2 _ y (by omega) (by omega) a4
theorem py.of {R':List (Nat × Nat)} {a m e lo hi:Nat} (h:py R a m e) (s:OA R R' lo hi) (o:RT R R' lo hi) (hx:(a≤lo∧hi≤m)∨(m≤lo∧hi≤e)):py R' a m e:=by
 have rep:∀ x,∃ y,gd R' x=gd R y∧((lo≤x∧x<hi∧lo≤y∧y<hi)∨((x<lo∨hi≤x)∧y=x)):=by
  intro x
  by_cases q:lo≤x∧x<hi
  ·obtain ⟨y,y1,y2,hy⟩:=(s (gd R' x)).1 ⟨x,q.1,q.2,rfl⟩
   exact ⟨y,hy.symm,.inl ⟨q.1,q.2,y1,y2⟩⟩
  ·exact ⟨x,o x (by omega),.inr ⟨by omega,rfl⟩⟩
 intro x y a1 a2 a3 a4
 obtain ⟨x',e1,hx'⟩:=rep x
 obtain ⟨y',e2,hy'⟩:=rep y
 rw[e1,e2]
 exact h x' y' (by omega) (by omega) (by omega) (by omega)
theorem SJ.CT {R':List (Nat × Nat)} {a c lo hi:Nat} (h:SJ R a c) (o:RT R R' lo hi) (hx:c≤lo∨hi≤a):SJ R' a c:=fun x y a1 a2 a3=>by
 rw[o x (by omega),o y (by omega)]; exact h x y a1 a2 a3
set_option maxHeartbeats 2000000 in
theorem Xz (hln:R.length≤3000):∀ (d K a m c:Nat) (σ:Aa) (R':List (Nat × Nat)),20000+d≤K→c-a≤d→a<m→m<c→c≤R.length→R'.length=R.length→G2 σ b R'→cE R'→SJ R' a m→SJ R' m c→py R' a m c →
  ∃ σ' R'',Ax K (some ⟨b,0,none⟩,R.length,R.length) (a:Int) (m:Int) (c:Int) Qk σ=some (.tuple #[],σ')∧G2 σ' b R''∧Zx R' R'' a c∧Fm b σ σ'
 | 0,K,a,m,c,σ,R',hK,hd,ham,hmc,hc,hl,h,hS,s1,s2,cr=>by omega
 | d+1,K,a,m,c,σ,R',hK,hd,ham,hmc,hc,hl,h,hS,s1,s2,cr=>by
   obtain ⟨k,rfl⟩:∃ k,K=k+3:=⟨K-3,by omega⟩
   have w1:Ac ((m:Int)-(a:Int))=(m:Int)-(a:Int):=Ad (by unfold AW; omega)
   have w2:Ac ((c:Int)-(m:Int))=(c:Int)-(m:Int):=Ad (by unfold AW; omega)
   rw[LF,HE]
   simp only[w1,w2]
   by_cases q1:m=a+1
   ·subst q1
    obtain ⟨τ,r,e1,r1,r2,r3,r4⟩:=ca (k+1) hln (a:=a) (lo:=a+1) (hi:=c) (by omega) hc hl hS (fun x y x1 x2 x3 hh=>by have:=s2.le x1 (Nat.le_of_lt x2) x3; omega) (c-(a+1)) (a+1) c (k+2) σ h (Nat.le_refl _) (by omega) (Nat.le_refl _) (by omega) (by omega) (fun x x1 x2=>by omega) (fun x x1 x2=>by omega)
    obtain ⟨σ2,R2,e2,g2,l2,t2,o2⟩:=iS (k+2) hln (e:=r) (by omega) (r-(a+1)) a (k+2) (σ++τ) R' hl (h.app τ) (by omega) (by omega)
    refine ⟨σ2,R2, ?_,g2,⟨l2.trans hl.symm,rG s2 r1 r2 t2 r3 r4 cr,t2.same (by omega) (by omega) (Nat.le_refl _) r2,t2.out (Nat.le_refl _) r2⟩,(Fm.app _ _).trans o2⟩
    rw[show (((a+1:Nat):Int)-(a:Int) == 1)=true from by simp; omega]
    simp only[cond_true,e1,Option.bind_some,if_true,D4,e2]
   rw[show ((m:Int)-(a:Int) == 1)=false from by rw[beq_eq_false_iff_ne]; omega]
   simp only[cond_false]
   by_cases q2:c=m+1
   ·subst q2
    obtain ⟨τ,r,e1,r1,r2,r3,r4⟩:=cb (k+1) hln (a:=m) (lo:=a) (hi:=m) (by omega) (by omega) hl hS (fun x y x1 x2 x3 hh=>by have:=s1.le x1 (Nat.le_of_lt x2) x3; omega) (m-a) a m (k+2) σ h (Nat.le_refl _) (by omega) (Nat.le_refl _) (by omega) (by omega) (fun x x1 x2=>by omega) (fun x x1 x2=>by omega)
    obtain ⟨σ2,R2,e2,g2,l2,t2,o2⟩:=iT (k+2) hln (i:=r) (m-r) m (k+2) (σ++τ) R' hl (h.app τ) (by omega) (by omega) (by omega)
    refine ⟨σ2,R2, ?_,g2,⟨l2.trans hl.symm,rH s1 r1 r2 t2 r3 r4 cr,t2.same r2 (by omega) r1 (Nat.le_refl _),t2.out r1 (Nat.le_refl _)⟩,(Fm.app _ _).trans o2⟩
    rw[show (((m+1:Nat):Int)-(m:Int) == 1)=true from by simp; omega]
    simp only[cond_true,e1,Option.bind_some,if_true,D4,e2]
   rw[show ((c:Int)-(m:Int) == 1)=false from by rw[beq_eq_false_iff_ne]; omega]
   simp only[cond_false]
   have hh:=ZH a c (by omega)
   obtain ⟨mid,hmid⟩:∃ mid,(a+c)/2=mid:=⟨_,rfl⟩
   rw[hmid] at hh
   have w3:Ac ((mid:Int)+(m:Int))=((mid+m:Nat):Int):=Ad (by unfold AW; omega)
   have w4:Ac (((mid+m:Nat):Int)-(c:Int))=(mid:Int)+(m:Int)-(c:Int):=by rw[Ad (by unfold AW; omega)]; omega
   have w5:Ac (((mid+m:Nat):Int)-1)=((mid+m-1:Nat):Int):=by rw[Ad (by unfold AW; omega)]; omega
   simp only[if_neg (show ¬ (1:Int)<0 by decide),hh,w3,w4,w5]
   obtain ⟨lo,hi,elh,hlo1,hlo2,hhi1,hhi2,hlh,hpc⟩:∃ lo hi:Nat,((bif decide ((m:Int)>(mid:Int)) then (some (Bm.normal,[Value.int .i64 ((mid:Int)+(m:Int)-(c:Int)),.int .i64 (mid:Int)],σ)) else (some (Bm.normal,[.int .i64 (a:Int),.int .i64 (m:Int)],σ)):Option Ay)=some (.normal,[.int .i64 (lo:Int),.int .i64 (hi:Int)],σ))∧a≤lo∧((lo=a∧m≤mid)∨mid+m-lo=c)∧(hi≤m∧hi≤mid)∧(hi=m∨hi=mid)∧lo≤hi ∧ ∀ x,lo≤x→x<hi→m≤mid+m-1-x∧mid+m-1-x<c∧x≤mid+m-1:=by
    by_cases q3:(m:Int)>(mid:Int)
    ·refine ⟨mid+m-c,mid, ?_,by omega,.inr (by omega),⟨by omega,by omega⟩,.inr rfl,by omega,fun x x1 x2=>by omega⟩
     rw[decide_eq_true q3,show ((mid+m-c:Nat):Int)=(mid:Int)+(m:Int)-(c:Int) from by omega]; rfl
    ·refine ⟨a,m, ?_,Nat.le_refl _,.inl ⟨rfl,by omega⟩,⟨Nat.le_refl _,by omega⟩,.inl rfl,by omega,fun x x1 x2=>by omega⟩
     rw[decide_eq_false q3]; rfl
   rw[elh]
   obtain ⟨τ,s,e1,r1,r2,r3,r4⟩:=cd (k+1) hln (p:=mid+m-1) (lo:=lo) (hi:=hi) (fun x x1 x2=>by have:=hpc x x1 x2; omega) (by omega) (by omega) hl hS (fun x y x1 x2 x3 hh=>by
    have u1:=s1.le (show a≤x by omega) (Nat.le_of_lt x2) (show y<m by omega)
    have u2:=hpc x x1 (by omega)
    have u3:=hpc y (by omega) x3
    have u4:=s2.le (show m≤mid+m-1-y by omega) (show mid+m-1-y≤mid+m-1-x by omega) (by omega)
    omega) (hi-lo) lo hi (k+2) σ h (Nat.le_refl _) hlh (Nat.le_refl _) (by omega) (by omega) (fun x x1 x2=>by omega) (fun x x1 x2=>by omega)
   obtain ⟨e,he⟩:∃ e,mid+m-s=e:=⟨_,rfl⟩
   have w6:Ac (((mid+m:Nat):Int)-(s:Int))=(e:Int):=by rw[Ad (by unfold AW; omega)]; omega
   have hme:m≤e:=by omega
   have hec:e≤c:=by
    rcases hlo2 with q | q <;> omega
   simp only[Option.bind_some,if_true,GK,e1,D4,w6]
   have p1:a<s→e<c→Xy (gd R' (s-1)) (gd R' e):=fun x1 x2=>by
    have u1:lo≤s-1:=by rcases hlo2 with q | q <;> omega
    have u2:=r3 (s-1) u1 (by omega)
    rw[show mid+m-1-(s-1)=e from by omega] at u2
    have u3:=cr (s-1) e (by omega) (by omega) hme x2
    unfold Xy; omega
   have p2:s<m→m<e→Xy (gd R' (e-1)) (gd R' s):=fun x1 x2=>by
    have u1:s<hi:=by rcases hhi2 with q | q <;> omega
    have u2:=r4 s (Nat.le_refl _) u1
    rw[show mid+m-1-s=e-1 from by omega] at u2
    exact .inl u2
   obtain ⟨σ2,R2,e2,g2,l2,t2,o2⟩:∃ σ2 R2,((bif decide ((s:Int)<(m:Int)) then some (decide ((m:Int)<(e:Int)),σ++τ) else some (false,σ++τ)).bind fun r65=>(bif r65.1 then ((Cm (k+2) (some ⟨b,0,none⟩,R.length,R.length) (s:Int) (m:Int) (e:Int) Qk r65.2).bind fun r66=>Uk r66.1 (some (Bm.normal,[],r66.2))) else (some (Bm.normal,[],r65.2)):Option Ay))=some (.normal,[],σ2)∧G2 σ2 b R2∧R2.length=R.length∧gv R' R2 s m e∧Fm b (σ++τ) σ2:=by
    by_cases q3:s<m
    ·by_cases q4:m<e
     ·obtain ⟨σ2,R2,e2,g2,l2,t2,o2⟩:=nc k (by omega) hln q3 q4 (show e≤R.length by omega) (σ++τ) R' hl (h.app τ) Qk
      refine ⟨σ2,R2, ?_,g2,l2,t2,o2⟩
      simp only[decide_eq_true (show (s:Int)<(m:Int) by omega),cond_true,decide_eq_true (show (m:Int)<(e:Int) by omega),Option.bind_some,e2,Ju]
     ·refine ⟨σ++τ,R', ?_,h.app τ,hl,gv.sR (.inr (by omega)),Fm.refl _⟩
      simp only[decide_eq_true (show (s:Int)<(m:Int) by omega),cond_true,decide_eq_false (show ¬ (m:Int)<(e:Int) by omega),Option.bind_some,cond_false]
    ·refine ⟨σ++τ,R', ?_,h.app τ,hl,gv.sR (.inl (by omega)),Fm.refl _⟩
     simp only[decide_eq_false (show ¬ (s:Int)<(m:Int) by omega),cond_false,Option.bind_some]
   have hsm:s≤m:=by omega
   have has:a≤s:=by omega
   obtain ⟨v1,v2,v3,v4,v5,v6,v7⟩:=rI s1 s2 cr has hsm hme hec (show mid=s+(e-m) by omega) t2 p1 p2
   have S2:cE R2:=hS.of (t2.same hsm hme has hec) (t2.out has hec)
   obtain ⟨σ3,R3,e3,g3,d3,o3⟩:∃ σ3 R3,((bif decide ((a:Int)<(s:Int)) then some (decide ((s:Int)<(mid:Int)),σ2) else some (false,σ2)).bind fun r68=>(bif r68.1 then ((Ax (k+2) (some ⟨b,0,none⟩,R.length,R.length) (a:Int) (s:Int) (mid:Int) Qk r68.2).bind fun r69=>Uk r69.1 (some (Bm.normal,[],r69.2))) else (some (Bm.normal,[],r68.2)):Option Ay))=some (.normal,[],σ3)∧G2 σ3 b R3∧Zx R2 R3 a mid∧Fm b σ2 σ3:=by
    by_cases q3:a<s
    ·by_cases q4:s<mid
     ·obtain ⟨σ3,R3,e3,g3,d3,o3⟩:=Xz hln d (k+2) a s mid σ2 R2 (by omega) (by omega) q3 q4 (by omega) l2 g2 S2 v1 v2 v3
      refine ⟨σ3,R3, ?_,g3,d3,o3⟩
      simp only[decide_eq_true (show (a:Int)<(s:Int) by omega),cond_true,decide_eq_true (show (s:Int)<(mid:Int) by omega),Option.bind_some,e3,Ju]
     ·refine ⟨σ2,R2, ?_,g2,⟨rfl,fun x y a1 a2 a3=>v1 x y a1 a2 (by omega),fun _=>Iff.rfl,fun _ _=>rfl⟩,Fm.refl _⟩
      simp only[decide_eq_true (show (a:Int)<(s:Int) by omega),cond_true,decide_eq_false (show ¬ (s:Int)<(mid:Int) by omega),Option.bind_some,cond_false]
    ·refine ⟨σ2,R2, ?_,g2,⟨rfl,fun x y a1 a2 a3=>v2 x y (by omega) a2 a3,fun _=>Iff.rfl,fun _ _=>rfl⟩,Fm.refl _⟩
     simp only[decide_eq_false (show ¬ (a:Int)<(s:Int) by omega),cond_false,Option.bind_some]
   have S3:cE R3:=S2.of d3.set d3.out
   obtain ⟨σ4,R4,e4,g4,d4,o4⟩:∃ σ4 R4,((bif decide ((mid:Int)<(e:Int)) then some (decide ((e:Int)<(c:Int)),σ3) else some (false,σ3)).bind fun r71=>(bif r71.1 then ((Ax (k+2) (some ⟨b,0,none⟩,R.length,R.length) (mid:Int) (e:Int) (c:Int) Qk r71.2).bind fun r72=>Uk r72.1 (some (Bm.normal,[],r72.2))) else (some (Bm.normal,[],r71.2)):Option Ay))=some (.normal,[],σ4)∧G2 σ4 b R4∧Zx R3 R4 mid c∧Fm b σ3 σ4:=by
    have v4':SJ R3 mid e:=v4.CT d3.out (.inr (Nat.le_refl _))
    have v5':SJ R3 e c:=v5.CT d3.out (.inr (by omega))
    have v6':py R3 mid e c:=fun x y a1 a2 a3 a4=>by rw[d3.out x (by omega),d3.out y (by omega)]; exact v6 x y a1 a2 a3 a4
    by_cases q3:mid<e
    ·by_cases q4:e<c
     ·obtain ⟨σ4,R4,e4,g4,d4,o4⟩:=Xz hln d (k+2) mid e c σ3 R3 (by omega) (by omega) q3 q4 hc (d3.len.trans l2) g3 S3 v4' v5' v6'
      refine ⟨σ4,R4, ?_,g4,d4,o4⟩
      simp only[decide_eq_true (show (mid:Int)<(e:Int) by omega),cond_true,decide_eq_true (show (e:Int)<(c:Int) by omega),Option.bind_some,e4,Ju]
     ·refine ⟨σ3,R3, ?_,g3,⟨rfl,fun x y a1 a2 a3=>v4' x y a1 a2 (by omega),fun _=>Iff.rfl,fun _ _=>rfl⟩,Fm.refl _⟩
      simp only[decide_eq_true (show (mid:Int)<(e:Int) by omega),cond_true,decide_eq_false (show ¬ (e:Int)<(c:Int) by omega),Option.bind_some,cond_false]
    ·refine ⟨σ3,R3, ?_,g3,⟨rfl,fun x y a1 a2 a3=>v5' x y (by omega) a2 a3,fun _=>Iff.rfl,fun _ _=>rfl⟩,Fm.refl _⟩
     simp only[decide_eq_false (show ¬ (mid:Int)<(e:Int) by omega),cond_false,Option.bind_some]
   refine ⟨σ4,R4, ?_,g4,⟨d4.len.trans (d3.len.trans (l2.trans hl.symm)), ?_, ?_, ?_⟩,((((Fm.app _ _).trans o2).trans o3).trans o4)⟩
   ·rw[Option.bind_eq_some_iff] at e2 e3 e4
    obtain ⟨x2,e2,f2⟩:=e2
    obtain ⟨x3,e3,f3⟩:=e3
    obtain ⟨x4,e4,f4⟩:=e4
    simp only[e2,Option.bind_some,f2,if_true,e3,f3,e4,f4]
   ·refine SJ.join (m:=mid) (d3.srt.CT d4.out (.inl (Nat.le_refl _))) d4.srt fun x y a1 a2 a3 a4=>?_
    rw[d4.out x (by omega)]
    obtain ⟨y',y1,y2,hy⟩:=(d4.set (gd R4 y)).1 ⟨y,a3,a4,rfl⟩
    obtain ⟨x',x1,x2,hx⟩:=(d3.set (gd R3 x)).1 ⟨x,a1,a2,rfl⟩
    rw[← hy,← hx,d3.out y' (by omega)]
    exact v7 x' y' x1 x2 y1 y2
   ·exact ((t2.same hsm hme has hec).trans (d3.set.wide d3.out (Nat.le_refl _) (by omega))).trans (d4.set.wide d4.out (by omega) (Nat.le_refl _))
   ·exact ((t2.out has hec).trans (d3.out.wide (Nat.le_refl _) (by omega))).trans (d4.out.wide (by omega) (Nat.le_refl _))
end Go.Proofs.YtlaplcglpnlieaaGreat
end
section
namespace Go.Proofs.YtlaplcglpnlieaaGreat
open Go Go.AX
noncomputable local instance v9:AF:=Au
local instance ur:Kn:=⟨true⟩
variable {σ:Aa} {b:Nat} {R:List (Nat × Nat)}
def Cut (R:List (Nat × Nat)) (n p:Nat):Prop:=∀ x y,x<p→p≤y→y<n→(gd R x).1<(gd R y).1
theorem Zx.rep {R':List (Nat × Nat)} {lo hi:Nat} (h:Zx R R' lo hi) (x:Nat):∃ y,gd R' x=gd R y∧((lo≤x∧x<hi∧lo≤y∧y<hi)∨((x<lo∨hi≤x)∧y=x)):=by
 by_cases q:lo≤x∧x<hi
 ·obtain ⟨y,y1,y2,hy⟩:=(h.set (gd R' x)).1 ⟨x,q.1,q.2,rfl⟩
  exact ⟨y,hy.symm,.inl ⟨q.1,q.2,y1,y2⟩⟩
 ·exact ⟨x,h.out x (by omega),.inr ⟨by omega,rfl⟩⟩
theorem Cut.of {R':List (Nat × Nat)} {n p lo hi:Nat} (h:Cut R n p) (d:Zx R R' lo hi) (hp:p≤lo∨hi≤p) (hn:hi≤n):Cut R' n p:=by
 intro x y h1 h2 h3
 obtain ⟨x',e1,hx⟩:=d.rep x
 obtain ⟨y',e2,hy⟩:=d.rep y
 rw[e1,e2]
 exact h x' y' (by omega) (by omega) (by omega)
theorem Zx.whole {R':List (Nat × Nat)} {lo hi n:Nat} (d:Zx R R' lo hi) (hn:hi≤n):OA R R' 0 n:=d.set.wide d.out (Nat.zero_le _) hn
structure XQ (R:List (Nat × Nat)) (n c:Nat):Prop where
 srt:∀ p,c∣p→SJ R p (min n (p+c))
 cut:∀ p,c∣p→Cut R n p
theorem Nu {c p q:Nat} (hp:c∣p) (hq:c∣q) (h:p<q):p+c≤q:=by
 obtain ⟨u,rfl⟩:=hp
 obtain ⟨v,rfl⟩:=hq
 have:u<v:=by
  rcases Nat.lt_or_ge u v with h' | h'
  ·exact h'
  ·have:=Nat.mul_le_mul_left c h'; omega
 have:=Nat.mul_le_mul_left c (show u+1≤v from this)
 rw[Nat.mul_add,Nat.mul_one] at this
 exact this
theorem iY (k:Nat) (hk:5000≤k) (hln:R.length≤3000):∀ (f0 a f:Nat) (σ:Aa) (R':List (Nat × Nat)),R'.length=R.length→G2 σ b R'→cE R'→20∣a→a≤R.length→(∀ p,20∣p→p<a→SJ R' p (p+20))→(∀ p,20∣p→p≤a→Cut R' R.length p)→sX R' a R.length→R.length<a+f0→f0≤f →
  ∃ (σ':Aa) (R'':List (Nat × Nat)) (r:Nat),AQ (k+2) f (some ⟨b,0,none⟩) R.length R.length ((R.length:Nat):Int) Qk (a:Int) ((a+20:Nat):Int) σ=some (.exit 0,[.int .i64 (r:Int)],σ')∧G2 σ' b R''∧R''.length=R.length∧cE R''∧OA R' R'' 0 R.length∧20∣r∧r≤R.length∧R.length<r+20∧(∀ p,20∣p→p<r→SJ R'' p (p+20))∧(∀ p,20∣p→p≤r→Cut R'' R.length p)∧sX R'' r R.length∧Fm b σ σ'
 | f0,a,0,σ,R',hl,h,hS,hd,ha,j1,j2,j3,hf0,hf=>by omega
 | f0,a,f+1,σ,R',hl,h,hS,hd,ha,j1,j2,j3,hf0,hf=>by
   rw[EC,D9]
   by_cases q:a+20≤R.length
   ·obtain ⟨σ1,R1,e1,g1,d1,o1⟩:=ox k hk (a:=a) (c:=a+20) hln (by omega) q σ R' hl h hS (fun x y a1 a2 a3=>j3 x y a1 a2 (by omega))
    have w1:Ac (((a+20:Nat):Int)+20)=((a+20+20:Nat):Int):=Ad (by unfold AW; omega)
    have cutB:Cut R1 R.length (a+20):=fun x y x1 y1 y2=>by
     obtain ⟨x',u1,hx⟩:=d1.rep x
     rw[u1,d1.out y (by omega)]
     by_cases q2:x'<a
     ·exact j2 a hd (Nat.le_refl _) x' y q2 (by omega) y2
     ·exact j3 x' y (by omega) (by omega) y2
    obtain ⟨σ2,R2,r,e2,g2,l2,S2,s2,t1,t2,t3,t4,t5,t6,o2⟩:=iY k hk hln (f0-1) (a+20) f σ1 R1 (d1.len.trans hl) g1 (hS.of d1.set d1.out) (by omega) q (fun p p1 p2=>by
     by_cases q2:p<a
     ·exact (j1 p p1 q2).CT d1.out (.inl (by omega))
     ·rw[show p=a from by omega]; exact d1.srt) (fun p p1 p2=>by
     by_cases q2:p≤a
     ·exact (j2 p p1 q2).of d1 (.inl q2) q
     ·rw[show p=a+20 from by omega]; exact cutB) (fun x y a1 a2 a3=>by rw[d1.out x (by omega),d1.out y (by omega)]; exact j3 x y (by omega) a2 a3) (by omega) (by omega)
    refine ⟨σ2,R2,r, ?_,g2,l2,S2,(d1.whole q).trans s2,t1,t2,t3,t4,t5,t6,o1.trans o2⟩
    simp only[decide_eq_true (show ((a+20:Nat):Int)≤((R.length:Nat):Int) by omega),cond_true,e1,Option.bind_some,Ju,w1,e2]
   ·refine ⟨σ,R',a, ?_,h,hl,hS,fun _=>Iff.rfl,hd,ha,by omega,j1,j2,j3,Fm.refl _⟩
    simp only[decide_eq_false (show ¬ ((a+20:Nat):Int)≤((R.length:Nat):Int) by omega),cond_false]
theorem ja (k:Nat) (hk:30000≤k) (hln:R.length≤3000) {c:Nat} (hc:1≤c) (hc2:c≤6000):∀ (f0 a f:Nat) (σ:Aa) (R':List (Nat × Nat)),R'.length=R.length→G2 σ b R'→cE R'→2*c∣a→a≤R.length→(∀ p,2*c∣p→p<a→SJ R' p (p+2*c))→(∀ p,c∣p→a≤p→SJ R' p (min R.length (p+c)))→(∀ p,2*c∣p→p≤a→Cut R' R.length p)→(∀ p,c∣p→a≤p→Cut R' R.length p)→R.length<a+f0→f0≤f →
  ∃ (σ':Aa) (R'':List (Nat × Nat)) (r:Nat),Bn k f (some ⟨b,0,none⟩) R.length R.length ((R.length:Nat):Int) Qk (c:Int) (a:Int) ((a+2*c:Nat):Int) σ=some (.exit 4,[.int .i64 (r:Int)],σ')∧G2 σ' b R''∧R''.length=R.length∧cE R''∧OA R' R'' 0 R.length∧2*c∣r∧r≤R.length∧R.length<r+2*c∧(∀ p,2*c∣p→p<r→SJ R'' p (p+2*c))∧(∀ p,c∣p→r≤p→SJ R'' p (min R.length (p+c)))∧(∀ p,2*c∣p→p≤r→Cut R'' R.length p)∧(∀ p,c∣p→r≤p→Cut R'' R.length p)∧Fm b σ σ'
 | f0,a,0,σ,R',hl,h,hS,hd,ha,j1,j2,j3,j4,hf0,hf=>by omega
 | f0,a,f+1,σ,R',hl,h,hS,hd,ha,j1,j2,j3,j4,hf0,hf=>by
   rw[GB,Fi]
   have hda:c∣a:=Nat.dvd_trans (Nat.dvd_mul_left c 2) hd
   by_cases q:a+2*c≤R.length
   ·have hdm:c∣a+c:=Nat.dvd_add hda (Nat.dvd_refl c)
    have hdb:2*c∣a+2*c:=Nat.dvd_add hd (Nat.dvd_refl _)
    have sA:=j2 a hda (Nat.le_refl _)
    have sB:=j2 (a+c) hdm (by omega)
    rw[show min R.length (a+c)=a+c from by omega] at sA
    rw[show min R.length (a+c+c)=a+2*c from by omega] at sB
    obtain ⟨σ1,R1,e1,g1,d1,o1⟩:=Xz hln (2*c) k a (a+c) (a+2*c) σ R' (by omega) (by omega) (by omega) (by omega) q hl h hS sA sB (fun x y x1 x2 y1 y2=>j4 (a+c) hdm (by omega) x y x2 y1 (by omega))
    have w1:Ac ((a:Int)+(c:Int))=((a+c:Nat):Int):=Ad (by unfold AW; omega)
    have w2:Ac ((2:Int)*(c:Int))=((2*c:Nat):Int):=Ad (by unfold AW; omega)
    have w3:Ac (((a+2*c:Nat):Int)+((2*c:Nat):Int))=((a+2*c+2*c:Nat):Int):=Ad (by unfold AW; omega)
    obtain ⟨σ2,R2,r,e2,g2,l2,S2,s2,t1,t2,t3,t4,t5,t6,t7,o2⟩:=ja k hk hln hc hc2 (f0-1) (a+2*c) f σ1 R1 (d1.len.trans hl) g1 (hS.of d1.set d1.out) hdb q (fun p p1 p2=>by
     by_cases q2:p<a
     ·exact (j1 p p1 q2).CT d1.out (.inl (Nu p1 hd q2))
     ·have:p=a:=by
       rcases Nat.eq_or_lt_of_le (Nat.le_of_not_lt q2) with e | e
       ·exact e.symm
       ·have:=Nu hd p1 e; omega
      rw[this]; exact d1.srt) (fun p p1 p2=>(j2 p p1 (by omega)).CT d1.out (.inr p2)) (fun p p1 p2=>by
     by_cases q2:p≤a
     ·exact (j3 p p1 q2).of d1 (.inl q2) q
     ·have:=Nu hd p1 (by omega)
      rw[show p=a+2*c from by omega]
      exact (j4 (a+2*c) (Nat.dvd_add hda (Nat.dvd_mul_left c 2)) (by omega)).of d1 (.inr (Nat.le_refl _)) q) (fun p p1 p2=>(j4 p p1 (by omega)).of d1 (.inr p2) q) (by omega) (by omega)
    refine ⟨σ2,R2,r, ?_,g2,l2,S2,(d1.whole q).trans s2,t1,t2,t3,t4,t5,t6,t7,o1.trans o2⟩
    simp only[decide_eq_true (show ((a+2*c:Nat):Int)≤((R.length:Nat):Int) by omega),cond_true,w1,e1,Option.bind_some,Ju,w2,w3,e2]
   ·refine ⟨σ,R',a, ?_,h,hl,hS,fun _=>Iff.rfl,hd,ha,by omega,j1,j2,j3,j4,Fm.refl _⟩
    simp only[decide_eq_false (show ¬ ((a+2*c:Nat):Int)≤((R.length:Nat):Int) by omega),cond_false]
theorem iZ (k:Nat) (hk:30000≤k) (hln:R.length≤3000):∀ (f0 c f:Nat) (σ:Aa) (R':List (Nat × Nat)),R'.length=R.length→G2 σ b R'→cE R'→1≤c→c≤6000→XQ R' R.length c→R.length≤c+f0→f0<f →
  ∃ (σ':Aa) (R'':List (Nat × Nat)),AR k f (some ⟨b,0,none⟩) R.length R.length ((R.length:Nat):Int) Qk (c:Int) σ=some (.exit 2,[],σ')∧G2 σ' b R''∧R''.length=R.length∧OA R' R'' 0 R.length∧SJ R'' 0 R.length∧Fm b σ σ'
 | f0,c,0,σ,R',hl,h,hS,hc,hc2,hB,hf0,hf=>by omega
 | f0,c,f+1,σ,R',hl,h,hS,hc,hc2,hB,hf0,hf=>by
   rw[ED,DA]
   by_cases q:c<R.length
   ·have w2:Ac ((2:Int)*(c:Int))=((0+2*c:Nat):Int):=by rw[Ad (by unfold AW; omega)]; omega
    obtain ⟨σ1,R1,r,e1,g1,l1,S1,s1,t1,t2,t3,t4,t5,t6,t7,o1⟩:=ja k hk hln hc hc2 (R.length+1) 0 k σ R' hl h hS (Nat.dvd_zero _) (by omega) (fun p _ p2=>by omega) (fun p p1 _=>hB.srt p p1) (fun p p1 p2=>by
     rw[show p=0 from by omega]; exact hB.cut 0 (Nat.dvd_zero _)) (fun p p1 _=>hB.cut p p1) (by omega) (by omega)
    rw[show ((0:Nat):Int)=0 from rfl] at e1
    have hdr:c∣r:=Nat.dvd_trans (Nat.dvd_mul_left c 2) t1
    have w3:Ac ((r:Int)+(c:Int))=((r+c:Nat):Int):=Ad (by unfold AW; omega)
    obtain ⟨σ2,R2,e2,g2,d2,o2⟩:∃ σ2 R2,((bif decide (((r+c:Nat):Int)<((R.length:Nat):Int)) then ((Ax k (some ⟨b,0,none⟩,R.length,R.length) (r:Int) ((r+c:Nat):Int) ((R.length:Nat):Int) Qk σ1).bind fun r8=>Uk r8.1 (some (Bm.normal,[],r8.2))) else (some (Bm.normal,[],σ1)):Option Ay))=some (.normal,[],σ2)∧G2 σ2 b R2∧Zx R1 R2 r R.length∧Fm b σ1 σ2:=by
     have sA:=t5 r hdr (Nat.le_refl _)
     by_cases q2:r+c<R.length
     ·have hdm:c∣r+c:=Nat.dvd_add hdr (Nat.dvd_refl c)
      have sB:=t5 (r+c) hdm (by omega)
      rw[show min R.length (r+c)=r+c from by omega] at sA
      rw[show min R.length (r+c+c)=R.length from by omega] at sB
      obtain ⟨σ2,R2,e2,g2,d2,o2⟩:=Xz hln R.length k r (r+c) R.length σ1 R1 (by omega) (by omega) (by omega) q2 (Nat.le_refl _) l1 g1 S1 sA sB (fun x y x1 x2 y1 y2=>t7 (r+c) hdm (by omega) x y x2 y1 y2)
      refine ⟨σ2,R2, ?_,g2,d2,o2⟩
      simp only[decide_eq_true (show ((r+c:Nat):Int)<((R.length:Nat):Int) by omega),cond_true,e2,Option.bind_some,Ju]
     ·rw[show min R.length (r+c)=R.length from by omega] at sA
      refine ⟨σ1,R1, ?_,g1,⟨rfl,sA,fun _=>Iff.rfl,fun _ _=>rfl⟩,Fm.refl _⟩
      simp only[decide_eq_false (show ¬ ((r+c:Nat):Int)<((R.length:Nat):Int) by omega),cond_false]
    have B2:XQ R2 R.length (2*c):=⟨fun p hp=>by
     rcases Nat.lt_trichotomy p r with h1 | h1 | h1
     ·have:=Nu hp t1 h1
      rw[show min R.length (p+2*c)=p+2*c from by omega]
      exact (t4 p hp h1).CT d2.out (.inl this)
     ·rw[h1,show min R.length (r+2*c)=R.length from by omega]; exact d2.srt
     ·have:=Nu t1 hp h1
      intro x y a1 a2 a3; omega,fun p hp=>by
     by_cases h1:p≤r
     ·exact (t6 p hp h1).of d2 (.inl h1) (Nat.le_refl _)
     ·have:=Nu t1 hp (by omega)
      intro x y a1 a2 a3; omega⟩
    have w4:Ac ((c:Int)*2)=((2*c:Nat):Int):=by rw[Ad (by unfold AW; omega)]; omega
    obtain ⟨σ3,R3,e3,g3,l3,s3,t,o3⟩:=iZ k hk hln (f0-1) (2*c) f σ2 R2 (d2.len.trans l1) g2 (S1.of d2.set d2.out) (by omega) (by omega) B2 (by omega) (by omega)
    refine ⟨σ3,R3, ?_,g3,l3,(s1.trans (d2.whole (Nat.le_refl _))).trans s3,t,(o1.trans o2).trans o3⟩
    simp only[decide_eq_true (show (c:Int)<((R.length:Nat):Int) by omega),cond_true,w2,e1,Option.bind_some,if_true,D4,w3,e2,w4,e3]
   ·refine ⟨σ,R', ?_,h,hl,fun _=>Iff.rfl, ?_,Fm.refl _⟩
    ·simp only[decide_eq_false (show ¬ (c:Int)<((R.length:Nat):Int) by omega),cond_false]
    ·have:=hB.srt 0 (Nat.dvd_zero _)
     rw[show min R.length (0+c)=R.length from by omega] at this
     exact this
theorem qz (k:Nat) (hk:40000≤k) (hln:R.length≤3000) (h:G2 σ b R) (hS:cE R) (hI:sX R 0 R.length):
  ∃ (σ':Aa) (R':List (Nat × Nat)),Bh (k+2) (some ⟨b,0,none⟩,R.length,R.length) Qk σ=some (.tuple #[],σ')∧G2 σ' b R'∧R'.length=R.length∧OA R R' 0 R.length∧SJ R' 0 R.length∧Fm b σ σ':=by
 obtain ⟨k,rfl⟩:∃ k',k=k'+2:=⟨k-2,by omega⟩
 obtain ⟨σ1,R1,r,e1,g1,l1,S1,s1,t1,t2,t3,t4,t5,t6,o1⟩:=iY k (by omega) hln (R.length+1) 0 (k+2) σ R rfl h hS (Nat.dvd_zero _) (by omega) (fun p _ p2=>by omega) (fun p _ p2 x y x1=>by omega) hI (by omega) (by omega)
 obtain ⟨σ2,R2,e2,g2,d2,o2⟩:=ox k (by omega) (a:=r) (c:=R.length) hln t2 (Nat.le_refl _) σ1 R1 l1 g1 S1 t6
 have B2:XQ R2 R.length 20:=⟨fun p hp=>by
  rcases Nat.lt_trichotomy p r with h1 | h1 | h1
  ·have:=Nu hp t1 h1
   rw[show min R.length (p+20)=p+20 from by omega]
   exact (t4 p hp h1).CT d2.out (.inl this)
  ·rw[h1,show min R.length (r+20)=R.length from by omega]; exact d2.srt
  ·have:=Nu t1 hp h1
   intro x y a1 a2 a3; omega,fun p hp=>by
  by_cases h1:p≤r
  ·exact (t5 p hp h1).of d2 (.inl h1) (Nat.le_refl _)
  ·have:=Nu t1 hp (by omega)
   intro x y a1 a2 a3; omega⟩
 obtain ⟨σ3,R3,e3,g3,l3,s3,t,o3⟩:=iZ (k+2) (by omega) hln R.length 20 (k+2) σ2 R2 (d2.len.trans l1) g2 (S1.of d2.set d2.out) (by decide) (by decide) B2 (by omega) (by omega)
 refine ⟨σ3,R3, ?_,g3,l3,(s1.trans (d2.whole (Nat.le_refl _))).trans s3,t,(o1.trans o2).trans o3⟩
 rw[show ((0:Nat):Int)=0 from rfl,show ((0+20:Nat):Int)=20 from rfl] at e1
 rw[show ((20:Nat):Int)=20 from rfl] at e3
 rw[EU,Ek,Fj,Ex]
 simp only[e1,Option.bind_some,if_true,D4,e2,Ju,e3]
theorem pg (k:Nat) (hk:10≤k) (σ:Aa):Bh (k+3) (none,0,0) Qk σ=some (.tuple #[],σ):=by
 obtain ⟨k,rfl⟩:∃ k',k=k'+2:=⟨k-2,by omega⟩
 have e1:AQ (k+3) (k+3) none 0 0 ((0:Nat):Int) Qk 0 20 σ=some (.exit 0,[.int .i64 0],σ):=by
  rw[EC,D9]
  simp only[decide_eq_false (show ¬ (20:Int)≤((0:Nat):Int) by decide),cond_false]
 have e2:A9 (k+3) (none,0,0) 0 ((0:Nat):Int) Qk σ=some (.tuple #[],σ):=by
  rw[DV,CP,Dg,C0]
  simp only[show Ac (0+1)=1 from rfl,decide_eq_false (show ¬ (1:Int)<((0:Nat):Int) by decide),cond_false,Option.bind_some,if_true]
 have e3:AR (k+3) (k+3) none 0 0 ((0:Nat):Int) Qk 20 σ=some (.exit 2,[],σ):=by
  rw[ED,DA]
  simp only[decide_eq_false (show ¬ (20:Int)<((0:Nat):Int) by decide),cond_false]
 rw[EU,Ek,Fj,Ex]
 simp only[e1,Option.bind_some,if_true,D4,e2,Ju,e3]
def Kv:List (Nat × Nat)→Option (Nat × Nat)
 | []=>none
 | g::l=>match Kv l with
   | none=>some g
   | some h=>if h.2<g.2 then some h else some g
def nv (l:List (Nat × Nat)):Prop:=l.Pairwise fun g h=>g.1<h.1
theorem Ye {l:List (Nat × Nat)} (h:Kv l=none):l=[]:=by
 cases l with
 | nil=>rfl
 | cons g l=>
   unfold Kv at h
   split at h
   ·cases h
   ·split at h <;> cases h
theorem Wo:∀ {l:List (Nat × Nat)},nv l → ∀ {e},Kv l=some e→e ∈ l ∧ ∀ g ∈ l,g=e∨Xy e g
 | [],_,e,h=>by cases h
 | g::l,hi,e,h=>by
   have hp:=List.pairwise_cons.1 hi
   unfold Kv at h
   cases hb:Kv l with
   | none=>
     rw[hb] at h; cases h
     have:=Ye hb; subst this
     exact ⟨by simp,fun g' hg=>.inl (by simpa using hg)⟩
   | some x=>
     rw[hb] at h
     obtain ⟨hx1,hx2⟩:=Wo hp.2 hb
     dsimp only at h
     split at h
     ·rename_i q
      cases h
      refine ⟨List.mem_cons_of_mem _ hx1,fun g' hg=>?_⟩
      rcases List.mem_cons.1 hg with rfl | hg
      ·exact .inr (.inl q)
      ·exact hx2 g' hg
     ·rename_i q
      cases h
      refine ⟨List.mem_cons_self,fun g' hg=>?_⟩
      rcases List.mem_cons.1 hg with rfl | hg
      ·exact .inl rfl
      ·have h1:=hp.1 g' hg
       have h2:g.2≤g'.2:=by
        rcases hx2 g' hg with rfl | h3
        ·omega
        ·unfold Xy at h3; omega
       exact .inr (by unfold Xy; omega)
theorem lW {R R':List (Nat × Nat)} (hl:R'.length=R.length) (hI:nv R) (hs:OA R R' 0 R.length) (ht:SJ R' 0 R.length):R'.head?=Kv R:=by
 cases hb:Kv R with
 | none=>
   have:=Ye hb
   subst this
   have:R'=[]:=List.length_eq_zero_iff.1 (by simpa using hl)
   rw[this]; rfl
 | some e=>
   obtain ⟨h1,h2⟩:=Wo hI hb
   have hp:0<R.length:=List.length_pos_of_mem h1
   have hm:∀ x,x<R.length→gd R x ∈ R:=fun x hx=>by
    unfold gd
    rw[List.getD_eq_getElem?_getD,List.getElem?_eq_getElem hx]
    exact List.getElem_mem _
   obtain ⟨i,hi,he⟩:=List.mem_iff_getElem.1 h1
   have hge:gd R i=e:=by
    unfold gd
    rw[List.getD_eq_getElem?_getD,List.getElem?_eq_getElem hi]; exact he
   obtain ⟨y,y1,y2,hy⟩:=(hs e).2 ⟨i,by omega,hi,hge⟩
   have hh:R'.head?=some (gd R' 0):=by
    cases R' with
    | nil=>simp at hl; omega
    | cons g l=>rfl
   rw[hh]
   congr 1
   by_cases q:y=0
   ·rw[q] at hy; exact hy
   ·exfalso
    have l1:=ht 0 y (Nat.le_refl _) (by omega) y2
    rw[hy] at l1
    obtain ⟨z,z1,z2,hz⟩:=(hs (gd R' 0)).1 ⟨0,Nat.le_refl _,hp,rfl⟩
    rcases h2 (gd R z) (hm z z2) with h3 | h3
    ·rw[hz] at h3; rw[h3] at l1; unfold Xy at l1; omega
    ·rw[hz] at h3; unfold Xy at l1 h3; omega
theorem Zo {m:HM} {a:AS} {l l':List (Nat × Nat)} (h:l.head?=l'.head?):B1 m a l=B1 m a l':=by
 cases l with
 | nil=>
   cases l' with
   | nil=>rfl
   | cons g l'=>simp at h
 | cons g l=>
   cases l' with
   | nil=>simp at h
   | cons g' l'=>simp at h; subst h; rfl
variable {i:Cs} {m:HM} {ab:Nat} {a:AS}
theorem dz (hI:Inv m) {e:Nat}:∀ (L:List Nat) (p:Nat),L.Pairwise (·<·)→(∀ j ∈ L,Start m j∧p≤2*j∧2*j+sz m j≤e)→p≤e →
  (Eb m L p).1.Pairwise (fun g h=>g.1+g.2≤h.1∧g.1<h.1)∧(∀ g ∈ (Eb m L p).1,p≤g.1∧g.1+g.2≤(Eb m L p).2∧0<g.2)∧p≤(Eb m L p).2∧(Eb m L p).2≤e
 | [],p,_,_,hp=>⟨.nil,fun g hg=>by simp[Eb] at hg,Nat.le_refl _,hp⟩
 | j::L,p,hs,hL,hp=>by
   obtain ⟨s1,s2,s3⟩:=hL j (by simp)
   have pc:=List.pairwise_cons.1 hs
   obtain ⟨r1,r2,r3,r4⟩:=dz hI L (2*j+sz m j) pc.2 (fun j' hj'=>by
    obtain ⟨t1,_,t3⟩:=hL j' (by simp[hj'])
    exact ⟨t1,hI.apart j j' s1 t1 (pc.1 j' hj'),t3⟩) s3
   have z:=(hI.size s1).1
   have g1:∀ g ∈ Ip p (2*j),g=(p,2*j-p)∧p<2*j:=fun g hg=>by
    unfold Ip at hg
    split at hg
    ·simp at hg; exact ⟨hg,by assumption⟩
    ·simp at hg
   simp only[Eb]
   refine ⟨List.pairwise_append.2 ⟨?_,r1,fun g hg h hh=>?_⟩,fun g hg=>?_,by omega,r4⟩
   ·unfold Ip; split
    ·exact List.pairwise_singleton _ _
    ·exact .nil
   ·obtain ⟨rfl,q⟩:=g1 g hg
    have:=(r2 h hh).1
    dsimp only; omega
   ·rcases List.mem_append.1 hg with h | h
    ·obtain ⟨rfl,q⟩:=g1 g h
     dsimp only; omega
    ·have:=r2 g h; omega
theorem Sr (hI:Inv m) (hI2:Inv2 m) (hw:m.wds.length=64*m.bls.length) (n:Nat) (hn:n<m.bls.length):(EN m (n:Int)).Pairwise (fun g h=>g.1<h.1) ∧ ∀ g ∈ EN m (n:Int),64*n≤g.1∧g.1+g.2≤64*n+64∧0<g.2:=by
 unfold EN
 split
 ·rename_i hst
  have hst':(m.bls.getD n (0,0)).1=1:=by
   unfold Ih at hst
   rw[if_pos (by omega),Int.toNat_natCast] at hst; exact hst
  rw[Int.toNat_natCast]
  obtain ⟨r1,r2,r3,r4⟩:=dz hI (e:=64*n+64) (Cf m (32*n) 32) (64*n) ((List.pairwise_lt_range' (step:=1) (by decide)).filter _) (fun j hj=>by
   have hh:=Hj.1 hj
   have hS:Start m j:=⟨by omega,hh.2.2⟩
   have:=(fp hI hI2 hst' hS hh.1 hh.2.1).2
   exact ⟨hS,by omega,by omega⟩) (by omega)
  have g1:∀ p q,∀ g ∈ Ip p q,g=(p,q-p)∧p<q:=fun p q g hg=>by
   unfold Ip at hg
   split at hg
   ·simp at hg; exact ⟨hg,by assumption⟩
   ·simp at hg
  unfold YW
  refine ⟨List.pairwise_append.2 ⟨r1.imp fun h=>h.2, ?_,fun g hg h hh=>?_⟩,fun g hg=>?_⟩
  ·unfold Ip; split
   ·exact List.pairwise_singleton _ _
   ·exact .nil
  ·obtain ⟨rfl,q⟩:=g1 _ _ h hh
   have:=r2 g hg
   dsimp only; omega
  ·rcases List.mem_append.1 hg with h | h
   ·have:=r2 g h; omega
   ·obtain ⟨rfl,q⟩:=g1 _ _ g h
    dsimp only; omega
 ·exact ⟨.nil,fun g hg=>by simp at hg⟩
theorem aV (hI:Inv m) (hI2:Inv2 m) (hw:m.wds.length=64*m.bls.length):∀ (L:List Nat),L.Pairwise (·<·)→(∀ b ∈ L,b<m.bls.length)→nv (Di m L)
 | [],_,_=>.nil
 | b::L,hs,hL=>by
   have pc:=List.pairwise_cons.1 hs
   unfold Di
   rw[List.flatMap_cons]
   refine List.pairwise_append.2 ⟨(Sr hI hI2 hw b (hL b (by simp))).1,aV hI hI2 hw L pc.2 (fun b' hb'=>hL b' (by simp[hb'])),fun g hg h hh=>?_⟩
   have h1:=(Sr hI hI2 hw b (hL b (by simp))).2 g hg
   obtain ⟨b',hb',hh'⟩:=List.mem_flatMap.1 hh
   have h2:=(Sr hI hI2 hw b' (hL b' (by simp[hb']))).2 h hh'
   have:=pc.1 b' hb'
   omega
theorem aq (m:HM) (s:Int) (n:Nat):(Bg m s n).Pairwise (·<·):=List.Pairwise.filter _ List.pairwise_lt_range
theorem Vh {w:Nat} {g g':Nat × Nat} (h:J1 0 w g=some g'):g'=g:=by
 unfold J1 at h
 split at h
 ·cases h
  obtain ⟨x,y⟩:=g
  dsimp only
  congr 1 <;> omega
 ·cases h
theorem dw (hI:Inv m) (hI2:Inv2 m) (hw:m.wds.length=64*m.bls.length) (s:Int) (w:Nat):nv (Bx m s 0 w):=by
 unfold Bx nv
 refine List.pairwise_filterMap.2 ((aV hI hI2 hw _ (aq m s _) fun b hb=>(OW.1 hb).1).imp fun {g h} hgh g' hg' h' hh'=>?_)
 rw[Vh hg',Vh hh']; exact hgh
theorem mr (hl:m.bls.length≤64) (s:Int) (w:Nat):∀ g ∈ Bx m s 0 w,g.1≤10000∧g.2≤10000:=by
 intro g hg
 unfold Bx at hg
 obtain ⟨g0,h0,hc⟩:=List.mem_filterMap.1 hg
 rw[Vh hc]
 unfold Di at h0
 obtain ⟨b,_,hb⟩:=List.mem_flatMap.1 h0
 have:=Xo hl _ g0 hb
 omega
theorem mq (hl:m.bls.length≤64) (s:Int) (f w:Nat):(Bx m s f w).length≤64*33:=by
 unfold Bx
 refine Nat.le_trans (List.length_filterMap_le _ _) ?_
 unfold Di
 have hb:=IY m s m.bls.length
 have aux:∀ L:List Nat,(L.flatMap fun b:Nat=>EN m (b:Int)).length≤L.length*33:=by
  intro L
  induction L with
  | nil=>simp
  | cons b L ih=>
    have:=MJ m (b:Int)
    rw[List.flatMap_cons,List.length_append,List.length_cons]; omega
 have:=aux (Bg m s m.bls.length)
 omega
def g7 (m:HM) (a:AS) (w:Nat):PR:=B1 m a (Kv (Bx m a.s 0 w)).toList
theorem cI (k:Nat) (hk:50000≤k) (h:Ah σ i m) (hA:Cj σ ab i a) (hab:ab ∉ i.l) (ho:a.ok) (hI:Inv m) (hI2:Inv2 m) (h0:B0 m) {w:Nat} (hw:1≤w∧w≤1000):
  cD (Dv (k+12) (D8 ab) (w:Int) σ) σ i ab (g7 m a w):=by
 have hnt:=h.nt
 obtain ⟨τ,s,e1,h1,lo1⟩:=ZG (k+3) (by omega) (h.app [.cells [] LN true]) (hA.app _) hI h0 (fr:=0) (by decide) hw
 obtain ⟨μ,hμ⟩:∃ μ,σ++[Bi.cells [] LN true]++τ=μ:=⟨_,rfl⟩
 rw[hμ] at e1 h1
 have H1:Ah μ i m:=hμ ▸ (h.app _).app _
 have A1:Cj μ ab i a:=hμ ▸ (hA.app _).app _
 have K1:Co i ab σ μ:=hμ ▸ (Co.app _ _).trans (Co.app _ _)
 have hlen:=mq (m:=m) hnt a.s 0 w
 have hinc:=dw hI hI2 h.wl a.s w
 have hsml:=mr (m:=m) hnt a.s w
 obtain ⟨μ2,l2,e2,H2,A2,K2,h2,hh⟩:∃ μ2 l2,Bh (k+11) (s.1,s.2.1,s.2.2) Qk μ=some (.tuple #[],μ2)∧Ah μ2 i m∧Cj μ2 ab i a∧Co i ab σ μ2∧BQ Af 2 μ2 s l2.length (AL l2)∧l2.head?=Kv (Bx m a.s 0 w):=by
  generalize Bx m a.s 0 w=R at *
  rcases h1 with ⟨z1,z2,rfl⟩ | ⟨b,rfl,_,z3,z4⟩
  ·have:R=[]:=List.length_eq_zero_iff.1 z1
   subst this
   exact ⟨μ,[],pg (k+8) (by omega) μ,H1,A1,K1,.inl ⟨rfl,rfl,rfl⟩,rfl⟩
  ·have lob:=lo1 _ rfl
   simp at lob
   have hb1:b ∉ i.l:=fun hm=>by have:=h.lt _ hm; omega
   have hb2:b≠ab:=by have:=hA.lt; omega
   obtain ⟨μ2,R2,e2,g2,l2,s2,t2,o2⟩:=qz (k+9) (by omega) (by omega) (show G2 μ b R from z4) (fun x=>by
    unfold gd
    rw[List.getD_eq_getElem?_getD]
    by_cases q:x<R.length
    ·rw[List.getElem?_eq_getElem q]; exact hsml _ (List.getElem_mem _)
    ·rw[List.getElem?_eq_none (by omega)]; decide) (fun x y x1 x2 x3=>by
    have:=List.pairwise_iff_getElem.1 hinc x y (by omega) x3 x2
    unfold gd
    rw[List.getD_eq_getElem?_getD,List.getD_eq_getElem?_getD,List.getElem?_eq_getElem x3,List.getElem?_eq_getElem (show x<R.length by omega)]
    exact this)
   refine ⟨μ2,R2,e2,H1.CT fun j hj=>o2.same j (H1.lt j hj) fun e=>hb1 (by rw[← e]; exact hj),A1.CT (o2.same _ A1.lt fun e=>hb2 e.symm),⟨Nat.le_trans K1.len o2.len,fun q hq q1 q2=>by
    rw[o2.same q (by have:=K1.len; omega) (by omega)]; exact K1.same q hq q1 q2⟩,.inr ⟨b,by rw[l2],Nat.zero_le _,KG _,g2⟩,lW l2 hinc s2 t2⟩
 obtain ⟨σ2,e3,g3,a3,k3⟩:=cm (k+1) (by omega) H2 A2 hab ho h2
 have e1':AM (k+11) (D8 ab) 0 (w:Int) (σ++[.cells [] LN true])=_:=e1
 have e3':AO (k+11) (D8 ab) (s.1,s.2.1,s.2.2) μ2=_:=e3
 have heq:B1 m a l2=g7 m a w:=Zo (by rw[hh]; cases Kv (Bx m a.s 0 w) <;> rfl)
 rw[← heq]
 refine ⟨σ2, ?_,g3,a3,K2.trans k3⟩
 rw[ND,LV]
 simp only[Ap,e1',Option.bind_some,H7,e2,Ju,e3',Tp]
end Go.Proofs.YtlaplcglpnlieaaGreat
end
