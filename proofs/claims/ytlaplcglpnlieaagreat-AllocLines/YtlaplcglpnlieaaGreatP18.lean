/- The document's heap: blocks claimed, released, retagged.; The document's heap: objects put into the list and cut from it.; The document's heap: words, -/
import Derived.Test.YtlaplcglpnlieaaGreatP17
import Derived.Test.YtlaplcglpnlieaaGreatP14
import Derived.Test.YtlaplcglpnlieaaGreatP15
set_option linter.unusedVariables false
set_option linter.unusedSimpArgs false
set_option linter.unusedSectionVars false
section
namespace Go.Proofs.YtlaplcglpnlieaaGreat
open Go Go.AX
noncomputable local instance va:AK:=Au
local instance tW:Kn:=⟨true⟩
variable {σ:Aa} {m:HM} {t:RM} {i:RI}
theorem Vp (k:Nat) (h:RG σ i m t) (b:Int):Ct (k+1) (Ca i) b σ=some (.bool (decide (1≤b∧b<(m.bls.length:Int))),σ):=by
 rw[TX,Qa]
 by_cases h0:1≤b
 ·rw[decide_eq_true (show b≥1 from h0)]
  simp only[cond_true,Option.bind_some,Nat.zero_add,Nat.add_zero,h.at_.RK,h.bn,h0,true_and]
 ·rw[decide_eq_false (show ¬ b≥1 from h0),decide_eq_false (fun hh=>h0 hh.1)]
  simp only[cond_false,Option.bind_some]
theorem Yt (k:Nat) (y:Int) (σ:Aa):Gh (k+1) y σ=some (.bool (UP y),σ):=by
 rw[Ya,VL]
 unfold UP
 by_cases h0:0≤y <;> simp[h0]
theorem dq (k:Nat) (h:RG σ i m t) (hP:NM m) (hz:FZ m) (b s:Int):Ho (CN (k+2) (Ca i) b s σ) σ i (.int .i64 (Ce m b 1 1 s 0 0).1) (Ce m b 1 1 s 0 0).2:=by
 have hnt:=h.nt
 rw[TO,PS]
 simp only[Iv k h,Vp k h b,Yt k s,Option.bind_some,As,Bool.not_true,cond_false]
 unfold Ce
 by_cases g0:1≤b∧b<(m.bls.length:Int)
 rotate_left
 ·rw[if_neg (fun hh=>g0 ⟨hh.1,hh.2.1⟩),decide_eq_false g0]
  exact Ho.Ro h hP (by simp only[Bool.not_false,cond_true,Option.bind_some])
 rw[decide_eq_true g0]
 simp only[Bool.not_true,cond_false,Option.bind_some]
 cases hs:UP s with
 | false=>
   rw[if_neg (fun hh=>by have:=hh.2.2.2.2; cases this)]
   exact Ho.Ro h hP (by simp only[Bool.not_false,cond_true])
 | true=>
   rw[if_pos ⟨g0.1,g0.2,by omega,by omega,rfl⟩]
   obtain ⟨n,rfl⟩:∃ n:Nat,b=(n:Int):=⟨b.toNat,by omega⟩
   have hn:n<m.bls.length:=by omega
   obtain ⟨q,e,l0,l1,hc⟩:=Xy h hn
   have qx:(0≤(n:Int)∧(n:Int)<((m.bls.length:Nat):Int))=True:=eq_true (by omega)
   simp only[Bool.not_true,cond_false,Nat.zero_add,Nat.add_zero,h.at_.RK,h.bn,Option.bind_some,qx,if_true,e,Int.toNat_natCast,l0,show (1:Int).toNat=1 from rfl]
   have hu:Im m.bls n 1 0=none↔(m.bls.getD n (0,0)).1=0:=by
    rw[Vt hz]
    constructor
    ·intro g; exact g 0 (Nat.le_refl _) (by omega)
    ·intro g c h1 h2
     rw[show c=0 from by omega]; exact g
   by_cases g1:(m.bls.getD n (0,0)).1=0
   ·rw[if_pos (hu.2 g1)]
    simp only[g1,bne_self_eq_false,cond_false]
    obtain ⟨q2,e2,e3,h3,k3⟩:=h.at_.qO (b:=n) (by rw[h.bn]; exact hn) 1 s
    have:q2=q:=by rw[e] at e2; cases e2; rfl
    subst this
    refine ⟨_,i,_,by simp only[e3,Option.bind_some],h3, ?_, ?_,k3⟩
    ·rw[h.sim.bl]
     have:(Vz m.bls n (0,0) 1 0).set n (1,s)=m.bls.set n (1,s):=by
      show (m.bls.set (n+0) (0,0)).set n (1,s)=_
      rw[Nat.add_zero,List.set_set]
     rw[this]
     exact h.sim.blocks _ (by simp)
    ·exact hP.blocks _ (by rw[List.length_set,G1])
   ·rw[if_neg (fun hh=>g1 (hu.1 hh))]
    simp only[bne_iff_ne.2 g1,cond_true]
    exact Ho.Ro h hP rfl
theorem VS (k:Nat) (h:RG σ i m t) (hz:FZ m) {b c:Nat} (hbc:b+c≤m.bls.length):∀ (n x f:Nat),x+n=c→n<f→Cq k f (Ca i) (b:Int) (c:Int) ((b+x:Nat):Int) σ=some (match Im m.bls b n x with | none=>(.exit 0,[],σ) | some _=>(.ret,[.int .i64 8],σ))
 | 0,x,0,hx,hf=>by omega
 | 0,x,f+1,hx,hf=>by
   have hnt:=h.nt
   rw[Jd,GY]
   have w:Ac ((b:Int)+(c:Int))=((b+c:Nat):Int):=Ad (by unfold AY; omega)
   simp only[w,decide_eq_false (show ¬ ((b+x:Nat):Int)<((b+c:Nat):Int) by omega),cond_false,Im]
 | n+1,x,0,hx,hf=>by omega
 | n+1,x,f+1,hx,hf=>by
   have hnt:=h.nt
   rw[Jd,GY,Im]
   have w:Ac ((b:Int)+(c:Int))=((b+c:Nat):Int):=Ad (by unfold AY; omega)
   have w1:Ac (((b+x:Nat):Int)+1)=((b+(x+1):Nat):Int):=Ad (by unfold AY; omega)
   obtain ⟨q,e,l0,l1,hc⟩:=Xy h (b:=b+x) (by omega)
   have qx:(0≤((b+x:Nat):Int)∧((b+x:Nat):Int)<((m.bls.length:Nat):Int))=True:=eq_true (by omega)
   simp only[w,decide_eq_true (show ((b+x:Nat):Int)<((b+c:Nat):Int) by omega),cond_true,Nat.zero_add,Nat.add_zero,h.at_.RK,h.bn,Option.bind_some,qx,if_true,e,Int.toNat_natCast,l0]
   by_cases g:(m.bls.getD (b+x) (0,0)).1=0
   ·rw[if_pos ⟨g,hz _ g⟩]
    simp only[g,bne_self_eq_false,cond_false,w1]
    exact VS k h hz hbc n (x+1) f (by omega) (by omega)
   ·rw[if_neg (fun hh=>g hh.1)]
    simp only[bne_iff_ne.2 g,cond_true]
theorem VT (k:Nat) {b c:Nat} (s:Int):∀ (n x f:Nat) (σ:Aa) (t:RM),N5 σ i t→t.bl.length≤64→b+c≤t.bl.length→x+n=c→n<f →
  ∃ σ',Cr k f (Ca i) (b:Int) (c:Int) s ((b+x:Nat):Int) σ=some (.exit 2,[],σ')∧N5 σ' i { t with bl:=Vz t.bl b (3,s) n x }∧GV i i σ σ'
 | 0,x,0,σ,t,h,hl,hb,hx,hf=>by omega
 | 0,x,f+1,σ,t,h,hl,hb,hx,hf=>by
   rw[Je,GZ]
   have w:Ac ((b:Int)+(c:Int))=((b+c:Nat):Int):=Ad (by unfold AY; omega)
   exact ⟨σ,by simp only[w,decide_eq_false (show ¬ ((b+x:Nat):Int)<((b+c:Nat):Int) by omega),cond_false],h,GV.refl _ _⟩
 | n+1,x,0,σ,t,h,hl,hb,hx,hf=>by omega
 | n+1,x,f+1,σ,t,h,hl,hb,hx,hf=>by
   have w:Ac ((b:Int)+(c:Int))=((b+c:Nat):Int):=Ad (by unfold AY; omega)
   have w1:Ac (((b+x:Nat):Int)+1)=((b+(x+1):Nat):Int):=Ad (by unfold AY; omega)
   obtain ⟨q,e,e3,h3,k3⟩:=h.qO (b:=b+x) (by omega) 3 s
   obtain ⟨σ',e4,h4,k4⟩:=VT k s n (x+1) f _ _ h3 (by show (t.bl.set _ _).length≤64; rw[List.length_set]; exact hl) (by show _≤(t.bl.set _ _).length; rw[List.length_set]; exact hb) (by omega) (by omega)
   refine ⟨σ', ?_,h4,k3.trans k4⟩
   rw[Je,GZ]
   have qx:(0≤((b+x:Nat):Int)∧((b+x:Nat):Int)<((t.bl.length:Nat):Int))=True:=eq_true (by omega)
   simp only[w,decide_eq_true (show ((b+x:Nat):Int)<((b+c:Nat):Int) by omega),cond_true,Nat.zero_add,Nat.add_zero,h.RK,Option.bind_some,qx,if_true,e,Int.toNat_natCast,e3,w1]
   exact e4
theorem bd (k:Nat) (hk:100≤k) (h:RG σ i m t) (hP:NM m) (hz:FZ m) (b c s:Int) (hb:AY b) (hc:AY c):Ho (Ea (k+2) (Ca i) b c s σ) σ i (.int .i64 (Ce m b c 2 s 3 s).1) (Ce m b c 2 s 3 s).2:=by
 have hnt:=h.nt
 have hbn:=h.bn
 rw[Qj,Mz]
 simp only[Iv k h,Vp k h b,Yt k s,Option.bind_some,As,Bool.not_true,cond_false]
 unfold Ce
 by_cases g0:1≤b∧b<(m.bls.length:Int)
 rotate_left
 ·rw[if_neg (fun hh=>g0 ⟨hh.1,hh.2.1⟩),decide_eq_false g0]
  exact Ho.Ro h hP (by simp only[Bool.not_false,cond_true,Option.bind_some])
 obtain ⟨n,rfl⟩:∃ n:Nat,b=(n:Int):=⟨b.toNat,by omega⟩
 have hn:n<m.bls.length:=by omega
 have wd:Ac (((m.bls.length:Nat):Int)-(n:Int))=((m.bls.length-n:Nat):Int):=by rw[Ad (by unfold AY; omega)]; omega
 rw[decide_eq_true g0]
 simp only[Bool.not_true,cond_false,Option.bind_some]
 by_cases g1:c<1
 ·rw[if_neg (fun hh=>by have:=hh.2.2.1; omega)]
  exact Ho.Ro h hP (by simp only[decide_eq_true g1,cond_true,Option.bind_some])
 simp only[decide_eq_false g1,cond_false,Option.bind_some,Nat.zero_add,Nat.add_zero,h.at_.RK,h.bn,wd]
 by_cases g2:c>((m.bls.length-n:Nat):Int)
 ·rw[if_neg (fun hh=>by have:=hh.2.2.2.1; omega)]
  exact Ho.Ro h hP (by simp only[decide_eq_true g2,cond_true,Option.bind_some])
 simp only[decide_eq_false g2,cond_false,Option.bind_some]
 cases hs:UP s with
 | false=>
   rw[if_neg (fun hh=>by have:=hh.2.2.2.2; cases this)]
   exact Ho.Ro h hP (by simp only[Bool.not_false,cond_true])
 | true=>
   rw[if_pos ⟨g0.1,g0.2,by omega,by omega,rfl⟩]
   obtain ⟨w,rfl⟩:∃ w:Nat,c=(w:Int):=⟨c.toNat,by omega⟩
   have hw:n+w≤m.bls.length:=by omega
   have e0:Cq (k+1) (k+1) (Ca i) (n:Int) (w:Int) (n:Int) σ=_:=VS (k+1) h hz hw w 0 (k+1) (by omega) (by omega)
   simp only[Bool.not_true,cond_false,e0,Option.bind_some,Int.toNat_natCast]
   cases g3:Im m.bls n w 0 with
   | none=>
     simp only[if_true]
     obtain ⟨σ1,e1,h1,k1⟩:=VT (i:=i) (k+1) (b:=n) (c:=w) s w 0 (k+1) σ t h.at_ (by rw[hbn]; exact hnt) (by rw[hbn]; exact hw) (by omega) (by omega)
     have e1':Cr (k+1) (k+1) (Ca i) (n:Int) (w:Int) s (n:Int) σ=_:=e1
     have hcl:(Vz t.bl n (3,s) w 0).length=m.bls.length:=by rw[G1,hbn]
     obtain ⟨q,e2,e3,h3,k3⟩:=h1.sT (b:=n) (by show n<(Vz t.bl n (3,s) w 0).length; omega) 2
     have hg:((Vz t.bl n (3,s) w 0).getD n (0,0)).2=s:=by
      rw[Z4 n (3,s) w 0 t.bl n (by omega),if_pos (by omega)]
     have e3':AX.Gz σ1 q (n*2) (.int .i64 2)=some (σ1.set q (.cells (C3 ((Vz t.bl n (3,s) w 0).set n (2,((Vz t.bl n (3,s) w 0).getD n (0,0)).2))) AA true)):=e3
     have h3':N5 (σ1.set q (.cells (C3 ((Vz t.bl n (3,s) w 0).set n (2,((Vz t.bl n (3,s) w 0).getD n (0,0)).2))) AA true)) i { t with bl:=(Vz t.bl n (3,s) w 0).set n (2,((Vz t.bl n (3,s) w 0).getD n (0,0)).2) }:=h3
     have ld:Ee σ1 i.hb 0=some (i.bs.1,(Vz t.bl n (3,s) w 0).length,(Vz t.bl n (3,s) w 0).length):=h1.RK
     rw[hg] at e3' h3'
     have qx:(0≤(n:Int)∧(n:Int)<((m.bls.length:Nat):Int))=True:=eq_true (by omega)
     refine ⟨σ1.set q (.cells (C3 ((Vz t.bl n (3,s) w 0).set n (2,s))) AA true),i,{ t with bl:=(Vz m.bls n (3,s) w 0).set n (2,s) }, ?_, ?_, ?_, ?_⟩
     ·simp only[if_true,e1',Option.bind_some,ld,hcl,qx,if_true,e2,Int.toNat_natCast,Nat.zero_add,e3']
     ·rw[← h.sim.bl]; exact h3'
     ·exact h.sim.blocks _ (by rw[List.length_set,G1])
     ·exact ⟨hP.blocks _ (by rw[List.length_set,G1]),k1.trans (GV.set _ _ (RI.Ka.2 (.inr (.inl (Xg e2)))))⟩
   | some x0=>
     simp only[reduceCtorEq,if_false,if_true,DZ]
     exact Ho.Ro h hP rfl
theorem UW (k:Nat) {b c:Nat}:∀ (n x f:Nat) (σ:Aa) (t:RM),N5 σ i t→t.bl.length≤64→b+c≤t.bl.length→x+n=c→n<f →
  ∃ σ',Db k f (Ca i) (b:Int) (c:Int) ((b+x:Nat):Int) σ=some (.exit 0,[],σ')∧N5 σ' i { t with bl:=Vz t.bl b (0,0) n x }∧GV i i σ σ'
 | 0,x,0,σ,t,h,hl,hb,hx,hf=>by omega
 | 0,x,f+1,σ,t,h,hl,hb,hx,hf=>by
   rw[K8,IA]
   have w:Ac ((b:Int)+(c:Int))=((b+c:Nat):Int):=Ad (by unfold AY; omega)
   exact ⟨σ,by simp only[w,decide_eq_false (show ¬ ((b+x:Nat):Int)<((b+c:Nat):Int) by omega),cond_false],h,GV.refl _ _⟩
 | n+1,x,0,σ,t,h,hl,hb,hx,hf=>by omega
 | n+1,x,f+1,σ,t,h,hl,hb,hx,hf=>by
   have w:Ac ((b:Int)+(c:Int))=((b+c:Nat):Int):=Ad (by unfold AY; omega)
   have w1:Ac (((b+x:Nat):Int)+1)=((b+(x+1):Nat):Int):=Ad (by unfold AY; omega)
   obtain ⟨q,e,e3,h3,k3⟩:=h.qO (b:=b+x) (by omega) 0 0
   obtain ⟨σ',e4,h4,k4⟩:=UW k n (x+1) f _ _ h3 (by show (t.bl.set _ _).length≤64; rw[List.length_set]; exact hl) (by show _≤(t.bl.set _ _).length; rw[List.length_set]; exact hb) (by omega) (by omega)
   refine ⟨σ', ?_,h4,k3.trans k4⟩
   rw[K8,IA]
   have qx:(0≤((b+x:Nat):Int)∧((b+x:Nat):Int)<((t.bl.length:Nat):Int))=True:=eq_true (by omega)
   simp only[w,decide_eq_true (show ((b+x:Nat):Int)<((b+c:Nat):Int) by omega),cond_true,Nat.zero_add,Nat.add_zero,h.RK,Option.bind_some,qx,if_true,e,Int.toNat_natCast,e3,w1]
   exact e4
theorem Xw (k:Nat) {b c:Nat} (y:Int):∀ (n x f:Nat) (σ:Aa) (t:RM),N5 σ i t→t.bl.length≤64→b+c≤t.bl.length→x+n=c→n<f →
  ∃ σ',DN k f (Ca i) (b:Int) y (c:Int) ((b+x:Nat):Int) σ=some (.exit 0,[],σ')∧N5 σ' i { t with bl:=ir t.bl b y n x }∧GV i i σ σ'
 | 0,x,0,σ,t,h,hl,hb,hx,hf=>by omega
 | 0,x,f+1,σ,t,h,hl,hb,hx,hf=>by
   rw[L9,JM]
   have w:Ac ((b:Int)+(c:Int))=((b+c:Nat):Int):=Ad (by unfold AY; omega)
   exact ⟨σ,by simp only[w,decide_eq_false (show ¬ ((b+x:Nat):Int)<((b+c:Nat):Int) by omega),cond_false],h,GV.refl _ _⟩
 | n+1,x,0,σ,t,h,hl,hb,hx,hf=>by omega
 | n+1,x,f+1,σ,t,h,hl,hb,hx,hf=>by
   have w:Ac ((b:Int)+(c:Int))=((b+c:Nat):Int):=Ad (by unfold AY; omega)
   have w1:Ac (((b+x:Nat):Int)+1)=((b+(x+1):Nat):Int):=Ad (by unfold AY; omega)
   obtain ⟨q,e,e3,h3,k3⟩:=h.sr (b:=b+x) (by omega) y
   obtain ⟨σ',e4,h4,k4⟩:=Xw k y n (x+1) f _ _ h3 (by show (t.bl.set _ _).length≤64; rw[List.length_set]; exact hl) (by show _≤(t.bl.set _ _).length; rw[List.length_set]; exact hb) (by omega) (by omega)
   refine ⟨σ', ?_,h4,k3.trans k4⟩
   rw[L9,JM]
   have qx:(0≤((b+x:Nat):Int)∧((b+x:Nat):Int)<((t.bl.length:Nat):Int))=True:=eq_true (by omega)
   simp only[w,decide_eq_true (show ((b+x:Nat):Int)<((b+c:Nat):Int) by omega),cond_true,Nat.zero_add,Nat.add_zero,h.RK,Option.bind_some,qx,if_true,e,Int.toNat_natCast,e3,w1]
   exact e4
theorem bS {n:Nat} (h:(m.bls.getD n (0,0)).1=1∨(m.bls.getD n (0,0)).1=2) (hn:n<m.bls.length):RH m n=Gf m n∧1≤Gf m n:=by
 have key:∀ f x,1≤x→1≤Hj m n f x:=by
  intro f
  induction f with
  | zero=>intro x hx; exact hx
  | succ f ih=>
    intro x hx
    rw[Hj]
    split
    ·exact ih (x+1) (by omega)
    ·exact hx
 refine ⟨?_,key _ _ (Nat.le_refl _)⟩
 unfold RH
 by_cases h1:(m.bls.getD n (0,0)).1=1
 ·rw[if_pos h1]
  unfold Gf
  cases hl:m.bls.length with
  | zero=>rfl
  | succ f=>rw[Hj,if_neg (fun hh=>by rw[h1] at hh; exact absurd hh.1 (by decide))]
 ·rw[if_neg h1,if_pos (by omega)]
theorem gQ (k:Nat) (hk:5000≤k) (h:RG σ i m t) (hP:NM m) (b:Int):Ho (Ei (k+3) (Ca i) b σ) σ i (.int .i64 (HP m b).1) (HP m b).2:=by
 have hnt:=h.nt
 have hbn:=h.bn
 rw[Se,O8]
 simp only[Iv (k+1) h,Vp (k+1) h b,Option.bind_some,As,Bool.not_true,cond_false]
 unfold HP OP
 by_cases g0:1≤b∧b<(m.bls.length:Int)
 rotate_left
 ·have q:(¬(1≤b∧b<(m.bls.length:Int))∨true=false)=True:=eq_true (.inl g0)
  rw[decide_eq_false g0]
  simp only[q,if_true,show ((1:Int)=0)=False from by decide,if_false]
  exact Ho.Ro h hP (by simp only[Bool.not_false,cond_true])
 have q:(¬(1≤b∧b<(m.bls.length:Int))∨true=false)=False:=eq_false (by simp; omega)
 simp only[q,if_false]
 obtain ⟨n,rfl⟩:∃ n:Nat,b=(n:Int):=⟨b.toNat,by omega⟩
 have hn:n<m.bls.length:=by omega
 have eW:BW (k+2) (Ca i) (n:Int) σ=_:=Yp (k+1) (by omega) h hn
 rw[decide_eq_true g0]
 simp only[Bool.not_true,cond_false,eW,Option.bind_some,Ao,Int.toNat_natCast]
 by_cases g1:(m.bls.getD n (0,0)).1≠1∧(m.bls.getD n (0,0)).1≠2
 ·have:RH m n=0:=by unfold RH; rw[if_neg g1.1,if_neg g1.2]
  rw[this]
  simp only[g1,ne_eq,not_false_eq_true,and_self,if_true,show ((5:Int)=0)=False from by decide,if_false]
  exact Ho.Ro h hP rfl
 obtain ⟨p1,p2⟩:=bS (n:=n) (by omega) hn
 have hsp:=QC hn
 rw[p1]
 have qn:(((Gf m n:Nat):Int) == 0)=false:=beq_eq_false_iff_ne.2 (by omega)
 obtain ⟨τ,s,eO,iO⟩:=YX k hk h (n:Int)
 have eobj:aW m (n:Int)=Cj m (32*n) 32:=by unfold aW; rw[if_pos (by omega),Int.toNat_natCast]
 rw[eobj] at iO
 have sl:s.2.1=(Cj m (32*n) 32).length:=by
  rw[← show (E8 (Cj m (32*n) 32)).length=(Cj m (32*n) 32).length from by simp[E8]]; exact iO.sl.len
 simp only[g1,qn,cond_false,eO,Option.bind_some,Hm,sl,if_false,if_true]
 by_cases g2:Cj m (32*n) 32=[]
 ·rw[if_pos g2,g2]
  obtain ⟨σ1,e1,h1,k1⟩:=UW (i:=i) (k+2) (b:=n) (c:=Gf m n) (Gf m n) 0 (k+2) (σ++τ) t (h.at_.app τ) (by omega) (by omega) (by omega) (by omega)
  have e1':Db (k+2) (k+2) (Ca i) (n:Int) ((Gf m n:Nat):Int) (n:Int) (σ++τ)=_:=e1
  refine ⟨σ1,i,_,by simp only[List.length_nil,show decide ((((0:Nat):Int))>0)=false from rfl,cond_false,e1',Option.bind_some,if_true],h1, ?_, ?_,(GV.app i σ τ).trans k1⟩
  ·rw[oR (by omega),h.sim.bl]
   exact h.sim.blocks _ (OT _ _ _)
  ·exact hP.blocks _ (OT _ _ _)
 ·rw[if_neg g2]
  have:0<(Cj m (32*n) 32).length:=List.length_pos_iff.2 g2
  simp only[decide_eq_true (show (((Cj m (32*n) 32).length:Nat):Int)>0 by omega),cond_true]
  exact Ho.same h hP τ rfl
theorem ma (k:Nat) (hk:5000≤k) (h:RG σ i m t) (hP:NM m) (b y:Int):Ho (EN (k+3) (Ca i) b y σ) σ i (.int .i64 (Nw m b y).1) (Nw m b y).2:=by
 have hnt:=h.nt
 have hbn:=h.bn
 rw[TS,PW]
 simp only[Iv (k+1) h,Vp (k+1) h b,Yt (k+1) y,Option.bind_some,As,Bool.not_true,cond_false]
 unfold Nw OP
 by_cases g0:1≤b∧b<(m.bls.length:Int)
 rotate_left
 ·have q:(¬(1≤b∧b<(m.bls.length:Int))∨UP y=false)=True:=eq_true (.inl g0)
  rw[decide_eq_false g0]
  simp only[q,if_true,show ((1:Int)=0)=False from by decide,if_false]
  exact Ho.Ro h hP (by simp only[Bool.not_false,cond_true,Option.bind_some])
 rw[decide_eq_true g0]
 cases hs:UP y with
 | false=>
   simp only[Bool.not_true,cond_false,Option.bind_some,or_true,if_true,show ((1:Int)=0)=False from by decide,if_false]
   exact Ho.Ro h hP (by simp only[Bool.not_false,cond_true])
 | true=>
 have q:(¬(1≤b∧b<(m.bls.length:Int))∨true=false)=False:=eq_false (by simp; omega)
 simp only[q,if_false]
 obtain ⟨n,rfl⟩:∃ n:Nat,b=(n:Int):=⟨b.toNat,by omega⟩
 have hn:n<m.bls.length:=by omega
 have eW:BW (k+2) (Ca i) (n:Int) σ=_:=Yp (k+1) (by omega) h hn
 simp only[Bool.not_true,cond_false,eW,Option.bind_some,Ao,Int.toNat_natCast]
 by_cases g1:(m.bls.getD n (0,0)).1≠1∧(m.bls.getD n (0,0)).1≠2
 ·have:RH m n=0:=by unfold RH; rw[if_neg g1.1,if_neg g1.2]
  rw[this]
  simp only[g1,ne_eq,not_false_eq_true,and_self,if_true,show ((5:Int)=0)=False from by decide,if_false]
  exact Ho.Ro h hP rfl
 obtain ⟨p1,p2⟩:=bS (n:=n) (by omega) hn
 have hsp:=QC hn
 rw[p1]
 have qn:(((Gf m n:Nat):Int) == 0)=false:=beq_eq_false_iff_ne.2 (by omega)
 obtain ⟨σ1,e1,h1,k1⟩:=Xw (i:=i) (k+2) (b:=n) (c:=Gf m n) y (Gf m n) 0 (k+2) σ t h.at_ (by omega) (by omega) (by omega) (by omega)
 have e1':DN (k+2) (k+2) (Ca i) (n:Int) y ((Gf m n:Nat):Int) (n:Int) σ=_:=e1
 simp only[g1,qn,cond_false,e1',Option.bind_some,if_false,if_true]
 refine ⟨σ1,i,_,rfl,h1, ?_, ?_,k1⟩
 ·rw[o7 (by omega),h.sim.bl]
  exact h.sim.blocks _ (OW _ _ _ _)
 ·exact hP.blocks _ (OW _ _ _ _)
end Go.Proofs.YtlaplcglpnlieaaGreat
end
section
namespace Go.Proofs.YtlaplcglpnlieaaGreat
open Go Go.AX
noncomputable local instance vc:AK:=Au
local instance tX:Kn:=⟨true⟩
variable {σ:Aa} {m:HM} {t:RM} {i:RI}
theorem ZY {ρ:Type} {x:Option Value} {d top v:Nat} (h:x=some (.int .i64 (v:Int))∨(x=none∧d=v)) (hv:v≤top) (K:Nat→Option ρ):bound x d top K=K v:=by
 rcases h with rfl | ⟨rfl,rfl⟩
 ·show (if 0≤(v:Int)∧(v:Int)≤(top:Int) then K (v:Int).toNat else none)=K v
  rw[if_pos (by omega),Int.toNat_natCast]
 ·rfl
theorem jI {E:TypeId} {s:Nat} {sl0:EF} {n0:Nat} {row0:List Value} (h0:Cd E s σ sl0 n0 row0) (lo hi:Nat) (hlh:lo≤hi) (hh:hi≤n0) (L H:Option Value) (hL:L=some (.int .i64 (lo:Int))∨(L=none∧0=lo)) (hH:H=some (.int .i64 (hi:Int))∨(H=none∧n0=hi)):
  ∃ src c,KK E s (sl0.1,n0,n0) L H none σ=some (src,hi-lo,c)∧F5 σ s src (hi-lo)=some ((row0.drop (lo*s)).take ((hi-lo)*s)):=by
 unfold KK
 simp only[Option.isSome_none,Bool.not_false,Bool.true_or,cond_true]
 rw[ZY (v:=n0) (.inr ⟨rfl,rfl⟩) (Nat.le_refl _),ZY hH hh,ZY hL hlh]
 rcases h0 with ⟨rfl,rfl,rfl⟩ | ⟨b,rfl,_,hl,hcell⟩
 ·have e1:hi=0:=by omega
  have e2:lo=0:=by omega
  subst e1; subst e2
  exact ⟨none,0,by simp,by simp[F5]⟩
 ·have e1:elemAt σ b=some E:=by simp only[elemAt,hcell]
  have ld:∀ o n,o+n≤row0.length→Ue σ b o n=some ((row0.drop o).take n):=fun o n h=>by simp only[Ue,hcell]; rw[if_pos h]
  by_cases e:n0=lo
  ·have e2:hi-lo=0:=by omega
   refine ⟨some ⟨b,0,none⟩,0, ?_, ?_⟩
   ·rw[if_pos e,e2]
    simp only[cond_false,e1,if_true]
   ·rw[e2,Nat.zero_mul]
    simp only[F5,Nat.zero_mul]
    rw[ld 0 0 (by omega)]; rfl
  ·refine ⟨some ⟨b,0+lo*s,none⟩,n0-lo, ?_, ?_⟩
   ·rw[if_neg e]
    simp only[Option.bind_some,e1,if_true]
   ·simp only[F5,Nat.zero_add]
    refine ld _ _ ?_
    rw[hl,← Nat.add_mul]
    exact Nat.mul_le_mul_right _ (by omega)
theorem pG {b o:Nat} {cs:List Value} {T:TypeId} (h:σ[b]?=some (.cells cs T true)) (ho:o≤cs.length):Kj σ b o []=some σ:=by
 simp only[Kj,h,List.length_nil,Nat.add_zero,ho,if_true,AF,List.append_nil,List.take_append_drop]
 rw[S8 h]
theorem Uv {E:TypeId} {s by_:Nat} {z:Value} (hs:HX P E=some s) (hb:bytesOf P E=some by_) (hz:FL P E=some z) (hz1:IM z=false) (hz2:z.cells.size=s) (hs0:0<s)
  (σ:Aa) (sl:EF) (n:Nat) (row:List Value) (src:Option Addr) (c:Nat) (hsl:Cd E s σ sl n row) (hx:F5 σ s src 0=some []):
  Bn P E sl (src,0,c) σ=some (sl,σ):=by
 unfold Bn SK
 simp only[hs,hb,hz,Option.bind_some,hx]
 have h1:(¬ (IM z=false∧some s=some z.cells.size∧0<z.cells.size))=False:=by
  rw[hz1,hz2]; simp[hs0]
 simp only[h1,if_false]
 rcases hsl with ⟨rfl,rfl,rfl⟩ | ⟨b,rfl,hp,hl,hcell⟩
 ·simp only[Nat.add_zero,Nat.le_refl,if_true,Lp,cond_true,pC]
 ·simp only[Nat.add_zero,Nat.le_refl,if_true,Lp,Option.isSome_none,cond_false,Option.bind_some,Nat.zero_add]
  rw[pG hcell (by omega)]
  simp only[Option.bind_some,pC]
theorem QR {E:TypeId} {s by_:Nat} {z:Value} (hs:HX P E=some s) (hb:bytesOf P E=some by_) (hz:FL P E=some z) (hz1:IM z=false) (hz2:z.cells.size=s) (hs0:0<s) (hb0:0<by_) (hb1:by_≤1000)
  (σ τ:Aa) (sl:EF) (n:Nat) (row:List Value) (hsl:Cd E s (σ++τ) sl n row) (hbh:∀ a,sl.1=some a→σ.length≤a.block) {sl0:EF} {n0:Nat} {row0:List Value} (h0:Cd E s (σ++τ) sl0 n0 row0) (lo hi:Nat) (hlh:lo≤hi) (hh:hi≤n0) (hn:n+n0≤1000000)
  (L H:Option Value) (hL:L=some (.int .i64 (lo:Int))∨(L=none∧0=lo)) (hH:H=some (.int .i64 (hi:Int))∨(H=none∧n0=hi)):
  ∃ src,KK E s (sl0.1,n0,n0) L H none (σ++τ)=some src ∧ ∃ s' τ',Bn P E sl (src.1,src.2.1,src.2.2) (σ++τ)=some (s',σ++τ')∧Cd E s (σ++τ') s' (n+(hi-lo)) (row++(row0.drop (lo*s)).take ((hi-lo)*s))∧(∀ a,s'.1=some a→σ.length≤a.block):=by
 obtain ⟨src,c,e1,e2⟩:=jI h0 lo hi hlh hh L H hL hH
 refine ⟨_,e1, ?_⟩
 have hlen:((row0.drop (lo*s)).take ((hi-lo)*s)).length=(hi-lo)*s:=by
  have hr:row0.length=n0*s:=by
   rcases h0 with ⟨rfl,rfl,rfl⟩ | ⟨b,rfl,_,hl,_⟩
   ·simp
   ·exact hl
  rw[List.length_take,List.length_drop,hr,← Nat.sub_mul]
  exact Nat.min_eq_left (Nat.mul_le_mul_right _ (by omega))
 by_cases hz0:hi-lo=0
 ·rw[hz0,Nat.zero_mul,List.take_zero] at e2
  refine ⟨sl,τ, ?_, ?_,hbh⟩
  ·simp only[hz0]
   exact Uv hs hb hz hz1 hz2 hs0 _ sl n row src c hsl e2
  ·rw[hz0,Nat.zero_mul,List.take_zero,List.append_nil]; exact hsl
 ·obtain ⟨s',σ',e,g,h⟩:=SL hs hb hz hz1 hz2 hs0 hb0 hb1 (σ++τ) sl n row src (hi-lo) c _ (by omega) (by omega) hlen hsl e2
  obtain ⟨⟨τ',rfl⟩,h2⟩:=g.behind hbh
  exact ⟨s',τ',e,h,h2⟩
theorem rI:HX P Aj=some 8:=by kernel_rfl
theorem rj:bytesOf P Aj=some 96:=by kernel_rfl
theorem rO:FL P Aj=some (.agg #[.int .i64 0,.int .i64 0,.int .i64 0,.int .i64 0,.int .i64 0,.slice none 0 0,.slice none 0 0,.bool false]):=by kernel_rfl
theorem Vk:∀ (l l':List RO) (om om':List (EF × EF)),om.length=l.length→HN (l++l') (om++om')=HN l om++HN l' om'
 | [],l',[],om',h=>rfl
 | [],l',p::om,om',h=>by simp at h
 | o::l,l',[],om',h=>by simp at h
 | o::l,l',p::om,om',h=>by
   simp only[List.cons_append,HN,Vk l l' om om' (by simpa using h),List.append_assoc]
theorem Rh (l:List RO) (om:List (EF × EF)) (h:om.length=l.length) (a:Nat) (ha:a≤l.length):(HN l om).take (a*8)=HN (l.take a) (om.take a)∧(HN l om).drop (a*8)=HN (l.drop a) (om.drop a):=by
 have e:HN l om=HN (l.take a) (om.take a)++HN (l.drop a) (om.drop a):=by
  rw[← Vk _ _ _ _ (by simp; omega),List.take_append_drop,List.take_append_drop]
 have hl:(HN (l.take a) (om.take a)).length=a*8:=by rw[Vl _ _ (by simp; omega),List.length_take,Nat.min_eq_left ha]
 rw[e]
 constructor
 ·rw[← hl,List.take_left]
 ·rw[← hl,List.drop_left]
theorem Xo (a b:List (EF × EF)):WH (a++b)=WH a++WH b:=by unfold WH; rw[List.flatMap_append]
theorem Xp (p:EF × EF) (b:List (EF × EF)):WH (p::b)=(hs p.1++hs p.2)++WH b:=rfl
theorem PJ (om:List (EF × EF)) (x:Nat):WH om=WH (om.take x)++WH (om.drop x):=by rw[← Xo,List.take_append_drop]
theorem db {lo:Nat} {s:EF} (h:∀ a,s.1=some a→lo≤a.block) {j:Nat} (hj:j ∈ hs s):lo≤j:=by
 obtain ⟨a,ha,rfl⟩:=JR.1 hj
 exact h a ha
theorem px (k:Nat) (h:N5 σ i t) (hn:t.ob.length≤5000) {x:Nat} (hx:x<t.ob.length):∃ σ' os',II (k+1) (Ca i) (x:Int) σ=some (.tuple #[],σ')∧N5 σ' { i with os:=os',om:=i.om.eraseIdx x } { t with ob:=t.ob.eraseIdx x }∧GV i { i with os:=os',om:=i.om.eraseIdx x } σ σ'∧(∀ a,os'.1=some a→σ.length≤a.block)∧(∀ j,j<σ.length→j≠i.hb→σ'[j]?=σ[j]?):=by
 have sep:=h.sep
 have hol:=h.ol
 have h0:Cd Aj 8 (σ++[]) i.os t.ob.length (HN t.ob i.om):=by rw[List.append_nil]; exact h.ob
 obtain ⟨src1,e1,s1,τ1,a1,sl1,b1⟩:=QR rI rj rO rfl rfl (by decide) (by decide) (by decide) σ [] (none,0,0) 0 [] (Cd.nil _ _ _) (by intro a ha; cases ha) h0 0 x (by omega) (by omega) (by omega) none (some (.int .i64 (x:Int))) (.inr ⟨rfl,rfl⟩) (.inl rfl)
 rw[Nat.zero_mul,List.drop_zero,Nat.sub_zero,List.nil_append,Nat.zero_add,(Rh t.ob i.om hol x (by omega)).1] at sl1
 rw[List.append_nil] at e1 a1
 have hg:=h.app τ1
 obtain ⟨src2,e2,s2,τ2,a2,sl2,b2⟩:=QR rI rj rO rfl rfl (by decide) (by decide) (by decide) σ τ1 s1 x _ sl1 b1 hg.ob (x+1) t.ob.length (by omega) (Nat.le_refl _) (by omega) (some (.int .i64 ((x+1:Nat):Int))) none (.inl rfl) (.inr ⟨rfl,rfl⟩)
 rw[(Rh t.ob i.om hol (x+1) (by omega)).2,List.take_of_length_le (l:=HN (t.ob.drop (x+1)) (i.om.drop (x+1))) (by rw[Vl _ _ (by simp; omega),List.length_drop]; exact Nat.le_refl _),← Vk _ _ _ _ (by simp; omega)] at sl2
 rw[← List.eraseIdx_eq_take_drop_succ,← List.eraseIdx_eq_take_drop_succ,show x+(t.ob.length-(x+1))=(t.ob.eraseIdx x).length from by rw[List.length_eraseIdx_of_lt hx]; omega] at sl2
 have hg2:=h.app τ2
 have hsub:∀ j ∈ WH (i.om.eraseIdx x),j ∈ WH i.om:=by
  intro j hj
  rw[List.eraseIdx_eq_take_drop_succ,Xo] at hj
  rw[PJ i.om x,List.drop_eq_getElem_cons (by omega),Xp]
  rcases List.mem_append.1 hj with hj | hj
  ·exact List.mem_append.2 (.inl hj)
  ·exact List.mem_append.2 (.inr (List.mem_append.2 (.inr hj)))
 have hnd:(WH (i.om.eraseIdx x)).Nodup:=by
  have:=sep.D
  rw[PJ i.om x,List.drop_eq_getElem_cons (by omega),Xp] at this
  rw[List.eraseIdx_eq_take_drop_succ,Xo]
  exact this.sublist (List.Sublist.append (List.Sublist.refl _) (List.sublist_append_right _ _))
 have hlt:=h.lt
 have hin:∀ {j},j ∈ i.l→j<σ.length:=fun hj=>hlt _ hj
 have hB:∀ j ∈ hs s2,σ.length≤j:=fun j hj=>db b2 hj
 have mA:∀ j ∈ hs i.bs,j<σ.length:=fun j hj=>hin (RI.Ka.2 (.inr (.inl hj)))
 have mC:∀ j ∈ hs i.fs,j<σ.length:=fun j hj=>hin (RI.Ka.2 (.inr (.inr (.inr (.inl hj)))))
 have mD:∀ j ∈ WH i.om,j<σ.length:=fun j hj=>hin (RI.Ka.2 (.inr (.inr (.inr (.inr hj)))))
 have mh:=hin i.R5
 have sep':Sep { i with os:=s2,om:=i.om.eraseIdx x }:=
  { hA:=sep.hA,hB:=fun hh=>Nat.not_lt.2 (hB _ hh) mh,hC:=sep.hC,hD:=fun hh=>sep.hD (hsub _ hh),
    AB:=fun a ha hh=>by have:=hB _ hh; have:=mA _ ha; omega,AC:=sep.AC,AD:=fun a ha hh=>sep.AD a ha (hsub _ hh),
    BC:=fun a ha hh=>by have:=hB _ ha; have:=mC _ hh; omega,BD:=fun a ha hh=>by have:=hB _ ha; have:=mD _ (hsub _ hh); omega,CD:=fun a ha hh=>sep.CD a ha (hsub _ hh),D:=hnd }
 have hlt2:∀ j ∈ RI.l { i with os:=s2,om:=i.om.eraseIdx x },j<(σ++τ2).length:=by
  intro j hj
  rcases RI.Ka.1 hj with hj | hj | hj | hj | hj
  ·have hj':j=i.hb:=hj
   rw[hj',List.length_append]; omega
  ·have:=mA _ hj; simp; omega
  ·obtain ⟨a,ha,rfl⟩:=JR.1 hj; exact sl2.lt a ha
  ·have:=mC _ hj; simp; omega
  ·have:=mD _ (hsub _ hj); simp; omega
 have hinn:∀ (y:Nat) (h1:y<(t.ob.eraseIdx x).length) (h2:y<(i.om.eraseIdx x).length),KU (σ++τ2) (i.om.eraseIdx x)[y].1 (t.ob.eraseIdx x)[y].refs∧KU (σ++τ2) (i.om.eraseIdx x)[y].2 (t.ob.eraseIdx x)[y].data:=by
  intro y h1 h2
  rw[List.getElem_eraseIdx,List.getElem_eraseIdx]
  split
  ·exact hg2.inn y (by omega) (by omega)
  ·have hl:=List.length_eraseIdx_of_lt hx
   exact hg2.inn (y+1) (by omega) (by omega)
 have hR:=N5.nL (i:={ i with os:=s2,om:=i.om.eraseIdx x }) (t:={ t with ob:=t.ob.eraseIdx x }) hg2.bl sl2 hg2.fw (by show (i.om.eraseIdx x).length=(t.ob.eraseIdx x).length; rw[List.length_eraseIdx_of_lt hx,List.length_eraseIdx_of_lt (by omega),hol]) hinn sep' hlt2
 refine ⟨_,s2, ?_,hR,⟨by simp,fun j hj hn=>?_,fun j hj=>?_,rfl⟩,b2,fun j hj hne=>?_⟩
 ·rw[V4,RX]
  have w:Ac ((x:Int)+1)=((x+1:Nat):Int):=Ad (by unfold AY; omega)
  have est:AX.Gz (σ++τ2) i.hb 1 (.slice s2.1 s2.2.1 s2.2.2)=some ((σ++τ2).set i.hb (.cells [.slice i.bs.1 i.bs.2.1 i.bs.2.2,.slice s2.1 s2.2.1 s2.2.2,.slice i.fs.1 i.fs.2.1 i.fs.2.2,.int .i64 t.born] EE true)):=by
   simp[AX.Gz,hg2.hp]
  simp only[Option.bind_some,Nat.zero_add,h.ML,e1,a1,hg.ML,w,e2,a2,est]
 ·have:i.hb≠j:=fun e=>hn (by rw[← e]; exact i.R5)
  rw[List.getElem?_set_ne this,List.getElem?_append_left hj]
 ·rcases RI.Ka.1 hj with hj | hj | hj | hj | hj
  ·exact .inl (by rw[hj]; exact i.R5)
  ·exact .inl (RI.Ka.2 (.inr (.inl hj)))
  ·exact .inr (hB _ hj)
  ·exact .inl (RI.Ka.2 (.inr (.inr (.inr (.inl hj)))))
  ·exact .inl (RI.Ka.2 (.inr (.inr (.inr (.inr (hsub _ hj))))))
 ·rw[List.getElem?_set_ne (Ne.symm hne),List.getElem?_append_left hj]
theorem bq (k:Nat) (h:N5 σ i t) (hn:t.ob.length≤5000) {q:Nat} {a:Int} (hq:Ai .i64 σ q 0=some a):∀ (n x f:Nat),x+n=t.ob.length→n<f→E5 k f (Ca i) q (x:Int) σ=some (.exit 0,[.int .i64 ((x+Tk (t.ob.drop x) a:Nat):Int)],σ)
 | 0,x,0,hx,hf=>by omega
 | 0,x,f+1,hx,hf=>by
   rw[Nm,Ll,List.drop_eq_nil_of_le (by omega)]
   simp only[Option.bind_some,Nat.zero_add,h.ML,decide_eq_false (show ¬ (x:Int)<((t.ob.length:Nat):Int) by omega),cond_false,Tk,Nat.add_zero]
 | n+1,x,0,hx,hf=>by omega
 | n+1,x,f+1,hx,hf=>by
   have hxl:x<t.ob.length:=by omega
   obtain ⟨b,e,hc,L⟩:=h.obj hxl
   have L:=L (by rw[h.ol]; exact hxl)
   have qx:(0≤(x:Int)∧(x:Int)<((t.ob.length:Nat):Int))=True:=eq_true (by omega)
   have w1:Ac ((x:Int)+1)=((x+1:Nat):Int):=Ad (by unfold AY; omega)
   rw[Nm,Ll,List.drop_eq_getElem_cons hxl,Tk]
   simp only[Option.bind_some,Nat.zero_add,Nat.add_zero,h.ML,decide_eq_true (show (x:Int)<((t.ob.length:Nat):Int) by omega),cond_true,qx,if_true,e,Int.toNat_natCast,L.l0,hq]
   by_cases g:t.ob[x].addr<a
   ·rw[decide_eq_true g,if_pos g]
    simp only[cond_true,w1]
    rw[bq k h hn hq n (x+1) f (by omega) (by omega),show x+1+Tk (t.ob.drop (x+1)) a=x+(Tk (t.ob.drop (x+1)) a+1) from by omega]
   ·rw[decide_eq_false g,if_neg g]
    simp only[cond_false,Nat.add_zero]
theorem YK {α:Type} (l:List α) (n:Nat) (hn:n≤l.length) (a:α) (y:Nat) (hy:y<(l.take n++a::l.drop n).length):(l.take n++a::l.drop n)[y]=if h:y<n then l[y] else if h2:y=n then a else l[y-1]'(by simp at hy; omega):=by
 have hl:(l.take n).length=n:=by rw[List.length_take]; omega
 split
 ·rename_i h
  rw[List.getElem_append_left (by omega),List.getElem_take]
 ·split
  ·rename_i h h2
   subst h2
   rw[List.getElem_append_right (by omega)]
   simp only[hl,Nat.sub_self,List.getElem_cons_zero]
  ·rename_i h h2
   obtain ⟨d,rfl⟩:∃ d,y=n+1+d:=⟨y-n-1,by omega⟩
   rw[List.getElem_append_right (by omega)]
   simp only[hl,show n+1+d-n=d+1 from by omega,List.getElem_cons_succ,List.getElem_drop]
   congr 1
   omega
theorem p9 (k:Nat) (hk:5000≤k) (h:N5 σ i t) (hn:t.ob.length≤4900) (o:RO) (p:EF × EF) (hp1:KU σ p.1 o.refs) (hp2:KU σ p.2 o.data) (hpl:∀ j,j ∈ hs p.1∨j ∈ hs p.2→j<σ.length∧j ∉ i.l) (hpn:(hs p.1++hs p.2).Nodup):
  ∃ σ' os',GR (k+1) (Ca i) o.addr o.id o.r o.d o.k p.1 p.2 o.pin σ=some (.tuple #[],σ')∧N5 σ' { i with os:=os',om:=i.om.take (Tk t.ob o.addr)++p::i.om.drop (Tk t.ob o.addr) } { t with ob:=UU t.ob o } ∧
   (∀ j,j<σ.length→j≠i.hb→σ'[j]?=σ[j]?)∧σ.length≤σ'.length∧(∀ a,os'.1=some a→σ.length≤a.block)∧(∀ j,j ∈ RI.l { i with os:=os',om:=i.om.take (Tk t.ob o.addr)++p::i.om.drop (Tk t.ob o.addr) }→j ∈ i.l∨j ∈ hs p.1∨j ∈ hs p.2∨σ.length≤j):=by
 have sep:=h.sep
 have hol:=h.ol
 obtain ⟨n,hN⟩:∃ n,Tk t.ob o.addr=n:=⟨_,rfl⟩
 have hnl:n≤t.ob.length:=by rw[← hN]; exact kB _ _
 obtain ⟨B,hB⟩:∃ B,AP.cells (FE o p) Aj true=B:=⟨_,rfl⟩
 have hb:=h.app [B]
 have lq:∀ (τ:Aa) (x:Nat),Ai .i64 (σ++([B]++τ)) σ.length x=((FE o p)[x]?).bind (BF .i64):=fun τ x=>by rw[← hB]; simp[Ai,Gs]
 have lqs:∀ (τ:Aa) (x:Nat),Ee (σ++([B]++τ)) σ.length x=((FE o p)[x]?).bind Hm:=fun τ x=>by rw[← hB]; simp[Ee,Gs]
 have lqb:∀ (τ:Aa) (x:Nat),Wu (σ++([B]++τ)) σ.length x=((FE o p)[x]?).bind DY:=fun τ x=>by rw[← hB]; simp[Wu,Gs]
 have e0:=bq k hb (by show t.ob.length≤5000; omega) (q:=σ.length) (a:=o.addr) (by have:=lq [] 0; rw[List.append_nil] at this; rw[this]; rfl) t.ob.length 0 k (by omega) (by omega)
 rw[List.drop_zero,Nat.zero_add,hN] at e0
 have e0':E5 k k (Ca i) σ.length 0 (σ++[B])=_:=e0
 obtain ⟨src1,e1,s1,τ1,a1,sl1,b1⟩:=QR rI rj rO rfl rfl (by decide) (by decide) (by decide) (σ++[B]) [] (none,0,0) 0 [] (Cd.nil _ _ _) (by intro a ha; cases ha) (by rw[List.append_nil]; exact hb.ob) 0 n (by omega) hnl (by omega) none (some (.int .i64 (n:Int))) (.inr ⟨rfl,rfl⟩) (.inl rfl)
 rw[Nat.zero_mul,List.drop_zero,Nat.sub_zero,List.nil_append,Nat.zero_add,(Rh t.ob i.om hol n hnl).1] at sl1
 rw[List.append_nil] at e1 a1
 obtain ⟨s2,τ2,a2,sl2,b2⟩:=MF rI rj rO rfl rfl (by decide) (by decide) (by decide) (σ++[B]) τ1 s1 n _ 1 1 (FE o p) Aj (by omega) (by decide) rfl sl1 b1
 have a2':Bn P Aj (s1.1,s1.2.1,s1.2.2) (some ⟨(σ++[B]++τ1).length,0,none⟩,1,1) (σ++[B]++τ1++[AP.cells [.int .i64 o.addr,.int .i64 o.id,.int .i64 o.r,.int .i64 o.d,.int .i64 o.k,.slice p.1.1 p.1.2.1 p.1.2.2,.slice p.2.1 p.2.2.1 p.2.2.2,.bool o.pin] Aj true])=some (s2,σ++[B]++τ2):=a2
 have hg2:=hb.app τ2
 obtain ⟨src3,e3,s3,τ3,a3,sl3,b3⟩:=QR rI rj rO rfl rfl (by decide) (by decide) (by decide) (σ++[B]) τ2 s2 (n+1) _ sl2 b2 hg2.ob n t.ob.length hnl (Nat.le_refl _) (by omega) (some (.int .i64 (n:Int))) none (.inl rfl) (.inr ⟨rfl,rfl⟩)
 rw[(Rh t.ob i.om hol n hnl).2,List.take_of_length_le (l:=HN (t.ob.drop n) (i.om.drop n)) (by rw[Vl _ _ (by simp; omega),List.length_drop]; exact Nat.le_refl _),List.append_assoc (HN (t.ob.take n) (i.om.take n)) (FE o p),show FE o p++HN (t.ob.drop n) (i.om.drop n)=HN (o::t.ob.drop n) (p::i.om.drop n) from rfl,← Vk _ _ _ _ (by simp; omega)] at sl3
 have hins:UU t.ob o=t.ob.take n++o::t.ob.drop n:=by unfold UU; rw[hN]
 have hlen:(UU t.ob o).length=n+1+(t.ob.length-n):=by rw[hins]; simp; omega
 rw[← hins,← hlen,List.append_assoc] at sl3
 have hg3:=h.app ([B]++τ3)
 have hlt:=h.lt
 have hin:∀ {j},j ∈ i.l→j<σ.length:=fun hj=>hlt _ hj
 have hB3:∀ j ∈ hs s3,σ.length≤j:=fun j hj=>by have:=db b3 hj; simp at this; omega
 have mA:∀ j ∈ hs i.bs,j<σ.length:=fun j hj=>hin (RI.Ka.2 (.inr (.inl hj)))
 have mC:∀ j ∈ hs i.fs,j<σ.length:=fun j hj=>hin (RI.Ka.2 (.inr (.inr (.inr (.inl hj)))))
 have mD:∀ j ∈ WH i.om,j<σ.length:=fun j hj=>hin (RI.Ka.2 (.inr (.inr (.inr (.inr hj)))))
 have mh:=hin i.R5
 have mem_om:∀ j,j ∈ WH (i.om.take n++p::i.om.drop n)↔j ∈ WH i.om∨j ∈ hs p.1∨j ∈ hs p.2:=by
  intro j
  rw[Xo,Xp,PJ i.om n]
  simp only[List.mem_append]
  constructor
  ·rintro (h | (h | h) | h)
   ·exact .inl (.inl h)
   ·exact .inr (.inl h)
   ·exact .inr (.inr h)
   ·exact .inl (.inr h)
  ·rintro ((h | h) | h | h)
   ·exact .inl h
   ·exact .inr (.inr h)
   ·exact .inr (.inl (.inl h))
   ·exact .inr (.inl (.inr h))
 have hnd:(WH (i.om.take n++p::i.om.drop n)).Nodup:=by
  have hD:=sep.D
  rw[PJ i.om n] at hD
  obtain ⟨d1,d2,d3⟩:=List.nodup_append.1 hD
  have out:∀ j,j ∈ hs p.1++hs p.2→j ∉ WH i.om:=fun j hj hm=>(hpl j (List.mem_append.1 hj)).2 (RI.Ka.2 (.inr (.inr (.inr (.inr hm)))))
  rw[Xo,Xp]
  refine List.nodup_append.2 ⟨d1,List.nodup_append.2 ⟨hpn,d2, ?_⟩, ?_⟩
  ·intro a ha b hb' e
   subst e
   exact out a ha (by rw[PJ i.om n]; exact List.mem_append.2 (.inr hb'))
  ·intro a ha b hb' e
   subst e
   rcases List.mem_append.1 hb' with hb' | hb'
   ·exact out a hb' (by rw[PJ i.om n]; exact List.mem_append.2 (.inl ha))
   ·exact d3 a ha a hb' rfl
 have pout:∀ {j},j ∈ WH (i.om.take n++p::i.om.drop n)→j<σ.length:=fun hj=>by
  rcases (mem_om _).1 hj with hj | hj
  ·exact mD _ hj
  ·exact (hpl _ hj).1
 have pne:∀ {j},j ∈ i.hb::(hs i.bs++hs i.fs)→j ∉ WH (i.om.take n++p::i.om.drop n):=fun {j} hj hm=>by
  rcases (mem_om _).1 hm with hm | hm
  ·rcases List.mem_cons.1 hj with e | hj
   ·exact sep.hD (e ▸ hm)
   ·rcases List.mem_append.1 hj with hj | hj
    ·exact sep.AD _ hj hm
    ·exact sep.CD _ hj hm
  ·refine (hpl _ hm).2 ?_
   rcases List.mem_cons.1 hj with e | hj
   ·rw[e]; exact i.R5
   ·rcases List.mem_append.1 hj with hj | hj
    ·exact RI.Ka.2 (.inr (.inl hj))
    ·exact RI.Ka.2 (.inr (.inr (.inr (.inl hj))))
 rw[hN]
 have sep':Sep { i with os:=s3,om:=i.om.take n++p::i.om.drop n }:=
  { hA:=sep.hA,hB:=fun hh=>Nat.not_lt.2 (hB3 _ hh) mh,hC:=sep.hC,hD:=fun hh=>pne (List.mem_cons_self) hh,
    AB:=fun a ha hh=>by have:=hB3 _ hh; have:=mA _ ha; omega,AC:=sep.AC,AD:=fun a ha hh=>pne (List.mem_cons_of_mem _ (List.mem_append.2 (.inl ha))) hh,
    BC:=fun a ha hh=>by have:=hB3 _ ha; have:=mC _ hh; omega,BD:=fun a ha hh=>by have:=hB3 _ ha; have:=pout hh; omega,CD:=fun a ha hh=>pne (List.mem_cons_of_mem _ (List.mem_append.2 (.inr ha))) hh,D:=hnd }
 have hlt2:∀ j ∈ RI.l { i with os:=s3,om:=i.om.take n++p::i.om.drop n },j<(σ++([B]++τ3)).length:=by
  intro j hj
  rcases RI.Ka.1 hj with hj | hj | hj | hj | hj
  ·have hj':j=i.hb:=hj
   rw[hj',List.length_append]; omega
  ·have:=mA _ hj; simp; omega
  ·obtain ⟨a,ha,rfl⟩:=JR.1 hj; exact sl3.lt a ha
  ·have:=mC _ hj; simp; omega
  ·have:=pout hj; simp; omega
 have hinn:∀ (y:Nat) (h1:y<(UU t.ob o).length) (h2:y<(i.om.take n++p::i.om.drop n).length),KU (σ++([B]++τ3)) (i.om.take n++p::i.om.drop n)[y].1 (UU t.ob o)[y].refs∧KU (σ++([B]++τ3)) (i.om.take n++p::i.om.drop n)[y].2 (UU t.ob o)[y].data:=by
  intro y h1 h2
  simp only[hins] at h1 ⊢
  rw[YK t.ob n hnl o y h1,YK i.om n (by omega) p y h2]
  have hl1:(t.ob.take n++o::t.ob.drop n).length=t.ob.length+1:=by simp; omega
  by_cases c1:y<n
  ·simp only[c1,dite_true]
   exact hg3.inn y (by omega) (by omega)
  ·by_cases c2:y=n
   ·simp only[c1,c2,dite_false,dite_true,Nat.lt_irrefl]
    exact ⟨hp1.app _,hp2.app _⟩
   ·simp only[c1,c2,dite_false]
    exact hg3.inn (y-1) (by omega) (by omega)
 have hR:=N5.nL (i:={ i with os:=s3,om:=i.om.take n++p::i.om.drop n }) (t:={ t with ob:=UU t.ob o }) hg3.bl sl3 hg3.fw (by show (i.om.take n++p::i.om.drop n).length=(UU t.ob o).length; rw[hlen]; simp; omega) hinn sep' hlt2
 refine ⟨_,s3, ?_,hR,fun j hj hne=>?_,by simp,fun a ha=>by have:=b3 a ha; simp at this; omega,fun j hj=>?_⟩
 ·rw[V5,RY]
  have est:AX.Gz (σ++([B]++τ3)) i.hb 1 (.slice s3.1 s3.2.1 s3.2.2)=some ((σ++([B]++τ3)).set i.hb (.cells [.slice i.bs.1 i.bs.2.1 i.bs.2.2,.slice s3.1 s3.2.1 s3.2.2,.slice i.fs.1 i.fs.2.1 i.fs.2.2,.int .i64 t.born] EE true)):=by
   have hh:=hg3.hp
   generalize σ++([B]++τ3)=μ at hh ⊢
   simp[AX.Gz,hh]
  have c0:∀ τ,Ai .i64 (σ++[B]++τ) σ.length 0=some o.addr:=fun τ=>by rw[List.append_assoc,lq]; rfl
  have c1:∀ τ,Ai .i64 (σ++[B]++τ) σ.length 1=some o.id:=fun τ=>by rw[List.append_assoc,lq]; rfl
  have c2:∀ τ,Ai .i64 (σ++[B]++τ) σ.length 2=some o.r:=fun τ=>by rw[List.append_assoc,lq]; rfl
  have c3:∀ τ,Ai .i64 (σ++[B]++τ) σ.length 3=some o.d:=fun τ=>by rw[List.append_assoc,lq]; rfl
  have c4:∀ τ,Ai .i64 (σ++[B]++τ) σ.length 4=some o.k:=fun τ=>by rw[List.append_assoc,lq]; rfl
  have c5:∀ τ,Ee (σ++[B]++τ) σ.length 5=some (p.1.1,p.1.2.1,p.1.2.2):=fun τ=>by rw[List.append_assoc,lqs]; rfl
  have c6:∀ τ,Ee (σ++[B]++τ) σ.length 6=some (p.2.1,p.2.2.1,p.2.2.2):=fun τ=>by rw[List.append_assoc,lqs]; rfl
  have c7:∀ τ,Wu (σ++[B]++τ) σ.length 7=some o.pin:=fun τ=>by rw[List.append_assoc,lqb]; rfl
  have hBox:AP.cells [.int .i64 o.addr,.int .i64 o.id,.int .i64 o.r,.int .i64 o.d,.int .i64 o.k,.slice p.1.1 p.1.2.1 p.1.2.2,.slice p.2.1 p.2.2.1 p.2.2.2,.bool o.pin] Aj true=B:=hB
  rw[← List.append_assoc] at est
  simp only[An,hBox,e0',Option.bind_some,if_true,DZ,Nat.zero_add,Nat.add_assoc,Nat.reduceAdd,hb.ML,e1,a1,c0,c1,c2,c3,c4,c5,c6,c7]
  rw[← hBox] at a2' ⊢
  simp only[a2',Option.bind_some]
  rw[hBox]
  simp only[hg2.ML,e3,a3,Option.bind_some,est]
  simp only[List.append_assoc]
 ·rw[List.getElem?_set_ne (Ne.symm hne),List.getElem?_append_left hj]
 ·rcases RI.Ka.1 hj with hj | hj | hj | hj | hj
  ·exact .inl (by rw[hj]; exact i.R5)
  ·exact .inl (RI.Ka.2 (.inr (.inl hj)))
  ·exact .inr (.inr (.inr (hB3 _ hj)))
  ·exact .inl (RI.Ka.2 (.inr (.inr (.inr (.inl hj)))))
  ·rcases (mem_om _).1 hj with hj | hj | hj
   ·exact .inl (RI.Ka.2 (.inr (.inr (.inr (.inr hj)))))
   ·exact .inr (.inl hj)
   ·exact .inr (.inr (.inl hj))
end Go.Proofs.YtlaplcglpnlieaaGreat
end
section
namespace Go.Proofs.YtlaplcglpnlieaaGreat
open Go Go.AX
noncomputable local instance vd:AK:=Au
local instance tY:Kn:=⟨true⟩
variable {σ:Aa} {m:HM} {t:RM} {i:RI}
theorem nY (k:Nat) (hk:5000≤k) (h:RG σ i m t) (hP:NM m) (hS:Sh m) (a:Int):Ho (Fp (k+4) (Ca i) a σ) σ i (.int .i64 (P2 m a).1) (P2 m a).2:=by
 have hol:=h.ol
 rw[U6,QW]
 have hix:=gM (k+1) (by omega) h a
 simp only[oh k hk h a,Option.bind_some,Ao]
 unfold P2
 cases hh:Qr m a with
 | false=>
   simp only[Bool.false_eq_true,if_false,sQ,cond_true]
   exact Ho.Ro h hP rfl
 | true=>
   obtain ⟨x,j,b,p,F⟩:=h.found hh
   obtain ⟨σ',os',e,h',k',_,_⟩:=px (k+2) h.at_ (by omega) F.xl
   have ea:a.toNat/2=j:=by rw[F.e,Int.toNat_natCast]; omega
   obtain ⟨s1,s2⟩:=h.sim.kill h.inv hS hP F.st F.all
   rw[ea]
   simp only[if_true,bne_self_eq_false,cond_false,hix,Option.bind_some,Ao,F.idx,e,Jx]
   exact ⟨σ',_,_,rfl,h',s1,s2,k'⟩
end Go.Proofs.YtlaplcglpnlieaaGreat
end
section
namespace Go.Proofs.YtlaplcglpnlieaaGreat
open Go Go.AX
noncomputable local instance ve:AK:=Au
local instance tZ:Kn:=⟨true⟩
variable {σ:Aa} {m:HM} {t:RM} {i:RI}
theorem N5.pA (h:N5 σ i t) (v:Int):∃ c,AX.Gz σ i.hb 3 (.int .i64 v)=some (σ.set i.hb c)∧N5 (σ.set i.hb c) i { t with born:=v }:=
 ⟨_,by simp only[AX.Gz,h.hp]; rfl,N5.nL (t:={ t with born:=v }) h.bl h.ob h.fw h.ol h.inn h.sep h.lt⟩
theorem py (n:Nat):rep n [Value.int .i64 0]=CS (List.replicate n 0):=by
 simp[rep,CS]
theorem dw (k:Nat) (hk:5000≤k) (h:RG σ i m t) (hP:NM m) (hS:Sh m) (hb:m.births<1000000) (a r d c:Int):
  Ho (Dw (k+5) (Ca i) a r d c σ) σ i (.tuple #[.int .i64 (Cw m a r d c).1,.int .i64 (Cw m a r d c).2.1]) (Cw m a r d c).2.2:=by
 have hnt:=h.nt
 have hwl:=h.wl
 have hol:=h.ol
 have hbr:=h.inv.brt
 obtain ⟨S,hSS⟩:∃ S,AP.cells [.int .i64 r,.int .i64 d,.int .i64 c] Al true=S:=⟨_,rfl⟩
 have hg:=h.app [S]
 have hq:(σ++[S])[σ.length]?=some (.cells [.int .i64 r,.int .i64 d,.int .i64 c] Al true):=by rw[← hSS]; simp
 obtain ⟨b0,b1,b2⟩:=SU hq
 obtain ⟨τ1,eV⟩:=Tm (k+3) r d c (σ++[S])
 have hg1:=hg.app τ1
 have hq1:(σ++[S]++τ1)[σ.length]?=_:=(List.getElem?_append_left (Ae hq)).trans hq
 obtain ⟨d0,d1,d2⟩:=SU hq1
 have eM:Am (k+4) (Ca i) (σ++[S])=_:=Iv (k+3) hg
 rw[TR,PV]
 simp only[An,hSS,eM,Option.bind_some,As,Bool.not_true,cond_false,Nat.zero_add,Nat.reduceAdd,Nat.add_zero,b0,b1,b2,eV]
 unfold Cw
 cases hv:valid r d c with
 | false=>
   simp only[Bool.not_false,cond_true,Bool.false_eq_true,if_false]
   exact Ho.same h hP ([S]++τ1) (by rw[← List.append_assoc])
 | true=>
 obtain ⟨τ2,eF⟩:=oe k hk hg1 a (-1) 0 hv (fun o ho=>by
  have:=(h.inv.idn o ho).1
  constructor
  ·intro e; omega
  ·intro e; omega)
 simp only[Bool.not_true,cond_false,if_true,d0,d1,d2,Option.bind_some,eF,Ao]
 by_cases hf:Nr m a (SF (num r d c)) (-1)=0
 rotate_left
 ·rw[if_neg hf]
  simp only[bne_iff_ne.2 hf,cond_true]
  exact Ho.same h hP ([S]++τ1++τ2) (by simp only[← List.append_assoc])
 rw[if_pos hf]
 have hw2:2≤SF (num r d c):=by
  have hv':=hv
  rw[O4 hv]
  simp[valid] at hv'
  omega
 obtain ⟨j,rfl,hj,hfit,hap⟩:=h.inv.fits hwl (fh _) hw2 hf
 rw[show ((2*j:Nat):Int).toNat/2=j from by omega]
 obtain ⟨s1,s2⟩:=h.sim.place h.inv h.inv2 hS hP hv hj (fun o ho=>hap o ho (by omega))
 have hg2:=hg1.app τ2
 obtain ⟨C,eS,h4⟩:=hg2.at_.pA (t.born+1)
 have hq2:(σ++[S]++τ1++τ2)[σ.length]?=_:=(List.getElem?_append_left (Ae hq1)).trans hq1
 have hhb:i.hb<σ.length:=h.at_.lt _ i.R5
 have hq3:((σ++[S]++τ1++τ2).set i.hb C)[σ.length]?=_:=(List.getElem?_set_ne (show i.hb≠σ.length by omega)).trans hq2
 have hlen:((σ++[S]++τ1++τ2).set i.hb C).length=σ.length+1+τ1.length+τ2.length:=by simp; omega
 have hs4:∀ x,x<σ.length→x≠i.hb→((σ++[S]++τ1++τ2).set i.hb C)[x]?=σ[x]?:=fun x hx hne=>by
  rw[List.getElem?_set_ne (Ne.symm hne),List.append_assoc,List.append_assoc,List.getElem?_append_left hx]
 have ld3':=hg2.at_.qX
 generalize (σ++[S]++τ1++τ2).set i.hb C=μ at h4 eS hq3 hlen hs4
 obtain ⟨c0,c1,c2⟩:=SU hq3
 have hv':=hv
 simp[valid] at hv'
 obtain ⟨rn,rfl⟩:∃ n:Nat,r=(n:Int):=⟨r.toNat,by omega⟩
 obtain ⟨dn,rfl⟩:∃ n:Nat,d=(n:Int):=⟨d.toNat,by omega⟩
 have w:Ac (t.born+1)=t.born+1:=Ad (by rw[h.sim.born]; unfold AY; omega)
 have qr:(0≤(rn:Int)∧(rn:Int)≤(rn:Int)∧(rn:Int)*((8:Nat):Int)≤2 ^ 40∧(rn:Int)≤2 ^ 40)=True:=eq_true (by omega)
 have qd:(0≤(dn:Int)∧(dn:Int)≤(dn:Int)∧(dn:Int)*((8:Nat):Int)≤2 ^ 40∧(dn:Int)≤2 ^ 40)=True:=eq_true (by omega)
 obtain ⟨A,hA⟩:∃ A,AP.cells (CS (List.replicate rn 0)) Bq true=A:=⟨_,rfl⟩
 obtain ⟨D,hD⟩:∃ D,AP.cells (CS (List.replicate dn 0)) Bq true=D:=⟨_,rfl⟩
 have hq5:(μ++[A])[σ.length]?=_:=(List.getElem?_append_left (Ae hq3)).trans hq3
 obtain ⟨_,f1,_⟩:=SU hq5
 have h6:N5 (μ++[A]++[D]) i { t with born:=t.born+1 }:=(h4.app [A]).app [D]
 have gA:(μ++[A]++[D])[μ.length]?=some (.cells (CS (List.replicate rn 0)) Bq true):=by rw[hA]; simp
 have gD:(μ++[A]++[D])[(μ++[A]).length]?=some (.cells (CS (List.replicate dn 0)) Bq true):=by rw[hD]; simp
 have ltl:∀ x ∈ i.l,x<σ.length:=h.at_.lt
 obtain ⟨σ',os',eP,hR,hsame,hle,hnew,hin⟩:=p9 (k+3) (by omega) h6 (by show t.ob.length≤4900; omega) ⟨((2*j:Nat):Int),t.born+1,(rn:Int),(dn:Int),c,List.replicate rn 0,List.replicate dn 0,false⟩ ((some ⟨μ.length,0,none⟩,rn,rn),(some ⟨(μ++[A]).length,0,none⟩,dn,dn))
  ⟨by simp,fun _=>⟨μ.length,rn,by simp,gA⟩,fun a ha=>by cases ha; exact ⟨_,_,_,gA,Nat.zero_le _⟩⟩ ⟨by simp,fun _=>⟨(μ++[A]).length,dn,by simp,gD⟩,fun a ha=>by cases ha; exact ⟨_,_,_,gD,Nat.zero_le _⟩⟩
  (by
   intro x hx
   have:x=μ.length∨x=(μ++[A]).length:=by
    rcases hx with hx | hx
    ·obtain ⟨q,e,rfl⟩:=JR.1 hx
     cases e; exact .inl rfl
    ·obtain ⟨q,e,rfl⟩:=JR.1 hx
     cases e; exact .inr rfl
   refine ⟨?_,fun hm=>?_⟩
   ·have hl:(μ++[A]).length=μ.length+1:=by simp
    have hl2:(μ++[A]++[D]).length=μ.length+2:=by simp
    rcases this with e | e <;> omega
   ·have:=ltl x hm
    have hl:(μ++[A]).length=μ.length+1:=by simp
    rcases ‹x=μ.length∨x=(μ++[A]).length› with e | e <;> omega)
  (by simp[hs])
 have eP':GR (k+4) (Ca i) ((2*j:Nat):Int) (t.born+1) (rn:Int) (dn:Int) c (some ⟨μ.length,0,none⟩,rn,rn) (some ⟨(μ++[A]).length,0,none⟩,dn,dn) false (μ++[A]++[D])=some (.tuple #[],σ'):=eP
 refine ⟨σ',_,_, ?_,hR,s1,s2,⟨by simp at hle; omega,fun x hx hn=>?_,fun x hx=>?_,rfl⟩⟩
 ·simp only[bne_self_eq_false,hf,cond_false,ld3',Option.bind_some,w,eS,h4.qX,c0,c1,c2,qr,if_true,Int.toNat_natCast,py,hA,f1,qd,hD,eP',Jx]
  have:=hR.qX
  simp only at this
  rw[this,h.sim.born]
  rfl
 ·have hne:x≠i.hb:=fun e=>hn (by rw[e]; exact i.R5)
  rw[hsame x (by simp; omega) hne,List.append_assoc,List.getElem?_append_left (by omega),hs4 x hx hne]
 ·rcases hin x hx with e | e | e | e
  ·exact .inl e
  ·obtain ⟨q,e',rfl⟩:=JR.1 e
   cases e'
   exact .inr (by show σ.length≤μ.length; omega)
  ·obtain ⟨q,e',rfl⟩:=JR.1 e
   cases e'
   exact .inr (by show σ.length≤(μ++[A]).length; simp; omega)
  ·exact .inr (by simp at e; omega)
end Go.Proofs.YtlaplcglpnlieaaGreat
end
section
namespace Go.Proofs.YtlaplcglpnlieaaGreat
open Go Go.AX
noncomputable local instance vf:AK:=Au
local instance ua:Kn:=⟨true⟩
variable {σ:Aa} {m:HM} {t:RM} {i:RI}
end Go.Proofs.YtlaplcglpnlieaaGreat
end
section
namespace Go.Proofs.YtlaplcglpnlieaaGreat
open Go Go.AX
noncomputable local instance vg:AK:=Au
local instance ub:Kn:=⟨true⟩
variable {σ:Aa} {m:HM} {t:RM} {i:RI}
theorem lJ (n j:Nat):¬ Start (Oh n) j:=by
 rintro ⟨_,h⟩
 have:Gc 1 (Oh n).stw j=0:=T6 _ _ _
 omega
theorem RQ.new (n:Nat):RQ (Oh n) ⟨List.replicate n (0,0),[],[],0⟩:=by
 refine ⟨rfl, ?_,rfl,fun a=>rfl,rfl,trivial,trivial⟩
 have:D2 (Oh n)=[]:=by
  cases h:D2 (Oh n) with
  | nil=>rfl
  | cons j l=>exact absurd (Ej.1 (by rw[h]; exact List.mem_cons_self)) (lJ n j)
 show []=KE (Oh n)
 unfold KE
 rw[this]; rfl
theorem NM.new (n:Nat):NM (Oh n):=fun j _ _=>T6 _ _ _
theorem FZ.new (n:Nat):FZ (Oh n):=by
 intro c _
 show ((List.replicate n ((0:Int),(0:Int))).getD c (0,0)).2=0
 rw[List.getD_eq_getElem?_getD,List.getElem?_replicate]
 split <;> rfl
theorem kA (k:Nat) {n:Nat} (h2:2≤n) (h64:n≤64) (σ:Aa):∃ τ i,K9 (k+1) (n:Int) σ=some (.tuple #[.pointer (Ca i),.int .i64 0],σ++τ)∧N5 (σ++τ) i ⟨List.replicate n (0,0),[],[],0⟩ ∧ ∀ j ∈ i.l,σ.length≤j:=by
 rw[aj,YF]
 simp only[show decide ((n:Int)<2)=false from decide_eq_false (by omega),cond_false,show decide ((n:Int)>64)=false from decide_eq_false (by omega),Option.bind_some,An]
 rw[if_pos (by omega)]
 simp only[Int.toNat_natCast,kD]
 obtain ⟨A,hA⟩:∃ A,AP.cells (C3 (List.replicate n (0,0))) AA true=A:=⟨_,rfl⟩
 rw[hA]
 refine ⟨[A]++[AP.cells [.slice (some ⟨σ.length,0,none⟩) n n,.slice none 0 0,.slice none 0 0,.int .i64 0] EE true],⟨(σ++[A]).length,(some ⟨σ.length,0,none⟩,n,n),(none,0,0),(none,0,0),[]⟩,by rw[List.append_assoc], ?_, ?_⟩
 ·rw[← List.append_assoc]
  refine { hp:=by simp,bl:=.inr ⟨σ.length,by simp,Nat.zero_le _,by rw[EL]; omega,by rw[List.getElem?_append_left (by simp),← hA]; simp⟩,ob:=.inl ⟨rfl,rfl,rfl⟩,fw:=.inl (.inl ⟨rfl,rfl,rfl⟩),ol:=rfl,inn:=fun x h=>by simp at h,nd:=?_,lt:=?_ }
  ·simp[RI.l,hs]
  ·intro j hj
   simp[RI.l,hs] at hj
   simp
   omega
 ·intro j hj
  simp[RI.l,hs] at hj
  omega
theorem KU.first {s:EF} {l:List Int} (h:KU σ s l):F5 σ 1 s.1 l.length=some (CS l):=by
 by_cases hl:l=[]
 ·subst hl
  cases hs:s.1 with
  | none=>rfl
  | some a=>
    obtain ⟨cs,T,w,h1,h2⟩:=h.2.2 a hs
    simp only[F5,Ue,h1,List.length_nil,Nat.zero_mul,Nat.add_zero,h2,if_true,List.take_zero]
    rfl
 ·obtain ⟨b,c,rfl,hc⟩:=h.2.1 hl
  simp only[F5,Ue,hc,GI,Nat.zero_add,Nat.mul_one,Nat.le_refl,if_true,List.drop_zero]
  rw[List.take_of_length_le (by rw[GI]; exact Nat.le_refl _)]
theorem Cd.first {E:TypeId} {s n:Nat} {sl:EF} {row:List Value} (h:Cd E s σ sl n row):F5 σ s sl.1 n=some row:=by
 rcases h with ⟨rfl,rfl,rfl⟩ | ⟨b,rfl,_,hl,hc⟩
 ·rfl
 ·simp only[F5,Ue,hc,hl,Nat.zero_add,Nat.le_refl,if_true,List.drop_zero]
  rw[List.take_of_length_le (Nat.le_of_eq hl)]
end Go.Proofs.YtlaplcglpnlieaaGreat
end
section
namespace Go.Proofs.YtlaplcglpnlieaaGreat
open Go Go.AX
noncomputable local instance vh:AK:=Au
local instance uc:Kn:=⟨true⟩
variable {σ:Aa} {m:HM} {i:C8}
theorem iw (k:Nat) (h:Ag σ i m) {b:Int} (hb:¬ (0≤b∧b<(m.bls.length:Int))):BS (k+3) (En i) b σ=some (.bool false,σ):=by
 rw[Lm,KL]
 simp only[ZC _ h,Option.bind_some,As,decide_eq_false (show ¬ (1≤b∧b<(m.bls.length:Int)) by omega),cond_false]
theorem qg (k:Nat) (hk:5000≤k) (h:Ag σ i m) (hI:Inv m) (h0:B0 m) (b:Int):
  ∃ τ s,EV (k+7) (En i) b σ=some (.slice s.1 s.2.1 s.2.2,σ++τ)∧Cd Af 2 (σ++τ) s (GQ m b).length (Bj (GQ m b)) ∧ ∀ a,s.1=some a→σ.length≤a.block:=by
 by_cases hb:0≤b∧b<(m.bls.length:Int)
 ·obtain ⟨n,rfl⟩:∃ n:Nat,b=(n:Int):=⟨b.toNat,by omega⟩
  have e:GQ m (n:Int)=cO m n:=by
   unfold GQ cO Ii
   rw[if_pos hb,Int.toNat_natCast]
   by_cases hs:(m.bls.getD n (0,0)).1=1
   ·have:1≤n:=by
     rcases Nat.eq_zero_or_pos n with rfl | h1
     ·have:=h0; unfold B0 at this; omega
     ·exact h1
    rw[if_pos hs,if_pos ⟨this,hs⟩]
   ·rw[if_neg hs,if_neg (fun hh=>hs hh.2)]
  rw[e]
  obtain ⟨τ,s,e1,e2,_,e4⟩:=oI k hk h hI (b:=n) (by omega)
  exact ⟨τ,s,e1,e2,e4⟩
 ·have e:GQ m b=[]:=by
   unfold GQ Ii
   rw[if_neg hb,if_neg (by decide)]
  rw[e]
  refine ⟨[],(none,0,0), ?_,Cd.nil _ _ _,by intro a ha; cases ha⟩
  rw[Iu,I9]
  have hu:BS (k+6) (En i) b σ=_:=iw (k+3) h hb
  simp only[hu,Option.bind_some,As,Bool.not_false,cond_true,List.append_nil]
theorem cf {l l':List Bool} (hl:l.length=l'.length) (h:∀ t,t<l.length→(l.getD t false=true↔l'.getD t false=true)):l=l':=by
 apply List.ext_getElem hl
 intro n h1 h2
 have:=h n h1
 rw[List.getD_eq_getElem?_getD,List.getD_eq_getElem?_getD,List.getElem?_eq_getElem h1,List.getElem?_eq_getElem h2,Option.getD_some,Option.getD_some] at this
 cases hx:l[n] <;> cases hy:l'[n] <;> rw[hx,hy] at this <;> simp at this <;> rfl
theorem jT (k:Nat) (hk:5000≤k) (h:Ag σ i m) (hI:Inv m) (hI2:Inv2 m) (h0:B0 m) (b:Int):
  ∃ τ s,Cm (k+7) (En i) b σ=some (.slice s.1 s.2.1 s.2.2,σ++τ)∧Cd DW 1 (σ++τ) s (C6 m b).length (Gd (C6 m b)) ∧ ∀ a,s.1=some a→σ.length≤a.block:=by
 have hwl:=h.wl
 by_cases hb:0≤b∧b<(m.bls.length:Int)
 ·obtain ⟨n,rfl⟩:∃ n:Nat,b=(n:Int):=⟨b.toNat,by omega⟩
  have hn:n<m.bls.length:=by omega
  unfold C6 Ii
  rw[if_pos hb,Int.toNat_natCast]
  by_cases hs:(m.bls.getD n (0,0)).1=1
  ·have h1:1≤n:=by
    rcases Nat.eq_zero_or_pos n with rfl | h1
    ·have:=h0; unfold B0 at this; omega
    ·exact h1
   rw[if_pos hs]
   obtain ⟨τ,bs,e1,e2,e3,e4⟩:=mE k hk h hI hI2 hn h1 hs
   have eb:bs=Of m n 8:=by
    refine cf (by rw[e3,Mj]) fun t ht=>?_
    rw[e4 t,nI hI hI2 hwl hn hs (by omega)]
    have:(Of m n 8).getD t false=XM m (64*n+8*t) 8:=by
     unfold Of
     rw[List.getD_eq_getElem?_getD,List.getElem?_map,List.getElem?_range (by omega)]
     rfl
    rw[this]
   rw[eb] at e2
   exact ⟨τ,(some ⟨σ.length,0,none⟩,8,8),e1,.inr ⟨σ.length,by rw[Mj],Nat.zero_le _,by rw[Mj]; unfold Gd; rw[List.length_map,Mj],e2⟩,fun a ha=>by cases ha; exact Nat.le_refl _⟩
  ·rw[if_neg hs]
   refine ⟨[],(none,0,0), ?_,Cd.nil _ _ _,by intro a ha; cases ha⟩
   rw[List.append_nil]
   exact mB (k+3) h hn (fun hh=>hs hh.2)
 ·have e:C6 m b=[]:=by
   unfold C6 Ii
   rw[if_neg hb,if_neg (by decide)]
  rw[e]
  refine ⟨[],(none,0,0), ?_,Cd.nil _ _ _,by intro a ha; cases ha⟩
  rw[HF,H8]
  have hu:BS (k+6) (En i) b σ=_:=iw (k+3) h hb
  simp only[hu,Option.bind_some,As,Bool.not_false,cond_true,List.append_nil]
theorem Il {c:Prop} [Decidable c] {r r':Int × HM} (h:c→FZ r.2) (h':¬ c→FZ r'.2):FZ (if c then r else r').2:=by
 split
 ·exact h ‹_›
 ·exact h' ‹_›
theorem Rz {m':HM} (h:FZ m) (hb:m'.bls=m.bls):FZ m':=by unfold FZ; rw[hb]; exact h
theorem XR (h:FZ m) (b c x y x' y':Int) (hx:x≠0) (hx':x'≠0∨c=1):FZ (Ce m b c x y x' y').2:=by
 unfold Ce
 refine Il (fun hc=>Il (fun hu=>?_) fun _=>h) fun _=>h
 intro d hd
 have hd:(((Vz m.bls b.toNat (x',y') c.toNat 0).set b.toNat (x,y)).getD d (0,0)).1=0:=hd
 show (((Vz m.bls b.toNat (x',y') c.toNat 0).set b.toNat (x,y)).getD d (0,0)).2=0
 rw[Rb,G1] at hd ⊢
 by_cases h1:d=b.toNat∧b.toNat<m.bls.length
 ·rw[if_pos h1] at hd; exact absurd hd hx
 ·rw[if_neg h1] at hd ⊢
  rw[Z4 _ _ _ _ _ _ (by omega)] at hd ⊢
  split at hd
  ·rename_i hr
   rcases hx' with hx' | rfl
   ·exact absurd hd hx'
   ·rw[show (1:Int).toNat=1 from rfl] at hr
    exact absurd ⟨by omega,by omega⟩ h1
  ·rename_i hr
   rw[if_neg hr]; exact h d hd
theorem gR (h:FZ m) (b:Int):FZ (HP m b).2:=by
 unfold HP
 refine Il (fun hc=>Il (fun hu=>?_) fun _=>h) fun _=>h
 intro d hd
 have hd:((bh m.bls b.toNat (Gf m b.toNat)).getD d (0,0)).1=0:=hd
 show ((bh m.bls b.toNat (Gf m b.toNat)).getD d (0,0)).2=0
 rw[St] at hd ⊢
 split
 ·rfl
 ·rename_i hr
  rw[if_neg hr] at hd; exact h d hd
theorem mf (h:FZ m) (b y:Int):FZ (Nw m b y).2:=by
 unfold Nw
 refine Il (fun hc=>?_) fun _=>h
 obtain ⟨n,rfl,h1,h2,_⟩:=Te hc
 rw[Int.toNat_natCast]
 have hst:(m.bls.getD n (0,0)).1=1∨(m.bls.getD n (0,0)).1=2:=by
  unfold OP at hc
  split at hc
  ·cases hc
  ·split at hc
   ·cases hc
   ·rename_i g
    rw[Int.toNat_natCast] at g
    omega
 intro d hd
 have hd:((Y2 m.bls n y (Gf m n)).getD d (0,0)).1=0:=hd
 show ((Y2 m.bls n y (Gf m n)).getD d (0,0)).2=0
 rw[bM _ _ _ _ _ (QC h2)] at hd ⊢
 split
 ·rename_i hr
  rw[if_pos hr] at hd
  have:=X3 (m:=m) m.bls.length 1 hst (Nat.le_refl _) (fun c _ _=>by omega) (d-n) (by show d-n<Gf m n; omega)
  rw[show n+(d-n)=d from by omega] at this
  exact absurd hd this
 ·rename_i hr
  rw[if_neg hr] at hd; exact h d hd
theorem mZ (h:FZ m) (x:Vu):FZ (gb m x).2:=by
 unfold gb
 refine Il (fun _=>XR h _ _ _ _ _ _ (by decide) (.inr rfl)) fun _=>?_
 refine Il (fun _=>XR h _ _ _ _ _ _ (by decide) (.inl (by decide))) fun _=>?_
 refine Il (fun _=>gR h _) fun _=>?_
 refine Il (fun _=>mf h _ _) fun _=>?_
 refine Il (fun _=>?_) fun _=>?_
 ·unfold Cw
  split
  ·split
   ·exact Rz h rfl
   ·exact h
  ·exact h
 refine Il (fun _=>?_) fun _=>?_
 ·unfold P2; exact Il (fun _=>Rz h rfl) fun _=>h
 refine Il (fun _=>?_) fun _=>?_
 ·unfold dc; exact Il (fun _=>Il (fun _=>Rz h rfl) fun _=>h) fun _=>h
 refine Il (fun _=>?_) fun _=>?_
 ·unfold Vr; exact Il (fun _=>Il (fun _=>h) fun _=>Rz h rfl) fun _=>h
 refine Il (fun _=>?_) fun _=>?_
 ·unfold S6; exact Il (fun _=>Rz h rfl) fun _=>h
 refine Il (fun _=>?_) fun _=>?_
 ·unfold dp
  refine Il (fun _=>?_) fun _=>h
  split
  ·exact h
  ·exact Il (fun _=>Rz h rfl) fun _=>h
 refine Il (fun _=>?_) fun _=>?_
 ·unfold cl; exact Il (fun _=>Rz h rfl) fun _=>h
 refine Il (fun _=>?_) fun _=>?_
 ·unfold cl; exact Il (fun _=>Rz h rfl) fun _=>h
 exact Il (fun _=>Rz h rfl) fun _=>h
end Go.Proofs.YtlaplcglpnlieaaGreat
end
section
namespace Go.Proofs.YtlaplcglpnlieaaGreat
open Go Go.AX
noncomputable local instance vi:AK:=Au
local instance ud:Kn:=⟨true⟩
variable {σ:Aa} {m:HM} {t:RM} {i:C8} {j:RI}
structure oB (σ:Aa) (i:C8) (j:RI) (m:HM) (t:RM):Prop where
 h:Ag σ i m
 g:RG σ j m t
 P:NM m
 z:FZ m
 b0:B0 m
 off:∀ q ∈ i.l,q ∉ j.l
 br:m.births≤1000
 fl:m.fw.length≤1000
theorem oB.app (T:oB σ i j m t) (τ:Aa):oB (σ++τ) i j m t:=⟨T.h.app τ,T.g.app τ,T.P,T.z,T.b0,T.off,T.br,T.fl⟩
end Go.Proofs.YtlaplcglpnlieaaGreat
end
