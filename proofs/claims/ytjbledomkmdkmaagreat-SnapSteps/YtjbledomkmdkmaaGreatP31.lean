/- Sound heaps; a cycle begun; steps.; Roots of the program: made, set, pushed.; The document's roots: made, set, pushed. -/
import Derived.Test.YtjbledomkmdkmaaGreatP30
set_option linter.unusedVariables false
set_option linter.unusedSimpArgs false
set_option linter.unusedSectionVars false
section
namespace Go.Proofs.YtjbledomkmdkmaaGreat
open Go Go.AX
noncomputable local instance qGO:A9:=Aw
local instance nGO:Kn:=⟨true⟩
variable {σ:Aa} {m:HM} {r:K4} {s:TC} {i:DD} {p:PI} {c:CI}
def vF (m:HM) (v:Int):Bool:=decide (v=0) || Ea m v
theorem dJ {b o:Nat} {x:Option Addr} (h:L8 σ b o=some x) (τ:Aa):L8 (σ++τ) b o=some x:=by
 simp only[L8,Gi] at h ⊢
 cases e:σ[b]? with
 | none=>rw[e] at h; cases h
 | some q=>rw[List.getElem?_append_left (Al e),e]; rw[e] at h; exact h
theorem u7 (k:Nat) (h:An σ i m) {h0:Nat} (hb:L8 σ h0 0=some (AV i)) (v:Int) (hv:AU v):Ex (k+5) v (some ⟨h0,0,none⟩) σ=some (.bool (!vF m v),σ):=by
 rw[Yh,Sy]
 have eh:AJ (k+4) (AV i) v σ=_:=fZ k h v hv
 simp only[sw,Ad,Af,Ae,Option.bind_some,Nat.zero_add,Nat.add_zero,hb,eh,Ar]
 unfold vF
 by_cases h0:v=0
 ·subst h0; simp
 ·rw[show (v != 0)=true from bne_iff_ne.2 h0,decide_eq_false h0]; simp
theorem uA (k:Nat) {h0:Nat} (hI:Inv m) (a:Int) (ha:AU a) {nn:Int} (hn:nn≤200):∀ (n x f:Nat) (σ:Aa),An σ i m→L8 σ h0 0=some (AV i)→(x:Int)+n=nn→n<f →
  ∃ τ,HQ (k+7) f h0 a nn (x:Int) σ=some (if ((List.range' x n).all fun (y:Nat)=>vF m (DI m a ((y:Nat):Int))) then (.exit 2,[],σ++τ) else (.ret,[.bool false],σ++τ))
 | n,x,0,σ,h,hb,hx,hf=>by omega
 | 0,x,f+1,σ,h,hb,hx,hf=>by
   rw[Sb,NO]
   simp only[sw,Ad,Af,Ae,decide_eq_false (show ¬ (x:Int)<nn by omega),cond_false]
   exact ⟨[],by simp⟩
 | n+1,x,f+1,σ,h,hb,hx,hf=>by
   have w1:Cf ((x:Int)+1)=((x+1:Nat):Int):=Ak (by unfold AU; omega)
   obtain ⟨τ,e1⟩:=nL k h hI a (x:Int) ha
   have e1':AA (k+7) (AV i) a (x:Int) σ=some (.tuple #[.int .i64 (DI m a (x:Int)),.int .i64 (Y2 m a (x:Int) false).2],σ++τ):=e1
   have h1:=h.app τ
   have hb1:=dJ hb τ
   have ec:Ex (k+7) (DI m a (x:Int)) (some ⟨h0,0,none⟩) (σ++τ)=_:=u7 (k+2) h1 hb1 _ (jk h.wi a _)
   obtain ⟨τ2,e2⟩:=uA k hI a ha hn n (x+1) f (σ++τ) h1 hb1 (by omega) (by omega)
   rw[Sb,NO,List.range'_succ,List.all_cons]
   simp only[sw,Ad,Af,Ae,decide_eq_true (show (x:Int)<nn by omega),cond_true,hb,Option.bind_some,e1',Fs,ec,Ar,w1,e2]
   cases vF m (DI m a (x:Int)) with
   | false=>exact ⟨τ,by simp⟩
   | true=>
     refine ⟨τ++τ2, ?_⟩
     simp only[Bool.not_true,cond_false,Bool.true_and,List.append_assoc]
theorem u9 (k:Nat) (hk:1000<k) {h0:Nat} (hI:Inv m) {sl:Ce} {l:List Int} (hl:l.length≤100000) (hv:∀ v ∈ l,AU v):∀ (n x f:Nat) (σ:Aa),An σ i m→L8 σ h0 0=some (AV i)→B6 σ sl l→x+n=l.length→n<f →
  ∃ τ,HP (k+7) f h0 sl.1 l.length l.length ((l.length:Nat):Int) (x:Int) σ=some (if ((l.drop x).all fun a=>(cP m a).all (vF m)) then (.exit 0,[],σ++τ) else (.ret,[.bool false],σ++τ))
 | n,x,0,σ,h,hb,hli,hx,hf=>by omega
 | 0,x,f+1,σ,h,hb,hli,hx,hf=>by
   rw[Sa,NN]
   simp only[sw,Ad,Af,Ae,decide_eq_false (show ¬ (x:Int)<((l.length:Nat):Int) by omega),cond_false]
   rw[List.drop_eq_nil_of_le (by omega)]
   exact ⟨[],by simp⟩
 | n+1,x,f+1,σ,h,hb,hli,hx,hf=>by
   obtain ⟨b,e,l1,_⟩:=hli.ld (x:=x) (by omega)
   have qx:(0≤(x:Int)∧(x:Int)<((l.length:Nat):Int))=True:=eq_true (by omega)
   have w1:Cf ((x:Int)+1)=((x+1:Nat):Int):=Ak (by unfold AU; omega)
   have hd:l.drop x=l.getD x 0::l.drop (x+1):=by
    rw[List.drop_eq_getElem_cons (by omega),List.getD_eq_getElem?_getD,List.getElem?_eq_getElem (by omega)]; rfl
   have hvx:AU (l.getD x 0):=by
    rw[List.getD_eq_getElem?_getD,List.getElem?_eq_getElem (show x<l.length by omega)]; exact hv _ (List.getElem_mem _)
   rw[hd,List.all_cons]
   generalize l.getD x 0=a at l1 hvx
   obtain ⟨τ1,e1⟩:=dv (k+1) h a hvx
   have e1':AE (k+7) (AV i) a σ=_:=e1
   obtain ⟨s1,s2,s3,s4⟩:=UU hI a
   obtain ⟨S,hS⟩:∃ S,A6.cells [.int .i64 (Au m a).1,.int .i64 (Au m a).2.1,.int .i64 (Au m a).2.2] Ag true=S:=⟨_,rfl⟩
   have hS2:(σ++τ1++[S])[(σ++τ1).length]?=some (.cells [.int .i64 (Au m a).1,.int .i64 (Au m a).2.1,.int .i64 (Au m a).2.2] Ag true):=by
    rw[List.getElem?_concat_length,hS]
   have l0:=(Md hS2).1
   have h2:An (σ++τ1++[S]) i m:=(h.app τ1).app _
   have hb2:=dJ (dJ hb τ1) [S]
   obtain ⟨τ2,e2⟩:=uA k (h0:=h0) hI a hvx s2 (Au m a).1.toNat 0 (k+7) (σ++τ1++[S]) h2 hb2 (by omega) (by omega)
   rw[show ((0:Nat):Int)=0 from rfl] at e2
   have hrf:(cP m a).all (vF m)=((List.range' 0 (Au m a).1.toNat).all fun (y:Nat)=>vF m (DI m a ((y:Nat):Int))):=by
    unfold cP
    rw[List.all_map,List.range_eq_range']
    rfl
   rw[hrf]
   obtain ⟨τ3,e3⟩:=u9 k hk (h0:=h0) hI hl hv n (x+1) f (σ++τ1++[S]++τ2) (h2.app τ2) (dJ hb2 τ2) (((hli.app τ1).app [S]).app τ2) (by omega) (by omega)
   rw[e] at e3
   rw[Sa,NN]
   simp only[sw,Ad,Af,Ae,decide_eq_true (show (x:Int)<((l.length:Nat):Int) by omega),cond_true,qx,if_true,e,Option.bind_some,Int.toNat_natCast,Nat.mul_one,Nat.zero_add,l1,hb,w1,e1',yt,List.length_cons,List.length_nil,Nat.reduceAdd,List.head?_cons,List.tail_cons,Lm,Aj,AM,Iv,hS,l0,e2]
   cases ((List.range' 0 (Au m a).1.toNat).all fun (y:Nat)=>vF m (DI m a ((y:Nat):Int))) with
   | false=>
     refine ⟨τ1++[S]++τ2, ?_⟩
     simp[zH,Ez]
   | true=>
     refine ⟨τ1++[S]++τ2++τ3, ?_⟩
     simp only[List.append_assoc] at e3
     simp only[if_true,Bool.true_and,List.append_assoc,e3]
theorem ib (k:Nat) {h0:Nat} {sl:Ce} {l:List Int} (hl:l.length≤100000) (hv:∀ v ∈ l,AU v) (h:An σ i m) (hb:L8 σ h0 0=some (AV i)) (hli:B6 σ sl l):∀ (n x f:Nat),x+n=l.length→n<f →
  ∃ o,Cb (k+5) f sl.1 l.length l.length (.func (.func 166) #[] #[.pointer (some ⟨h0,0,none⟩)]) ((l.length:Nat):Int) (x:Int) σ=some o∧(((l.drop x).all (vF m))=true→o=(.exit 0,[],σ))∧(((l.drop x).all (vF m))=false → ∃ y:Nat,o=(.ret,[.int .i64 (y:Int)],σ))
 | n,x,0,hx,hf=>by omega
 | 0,x,f+1,hx,hf=>by
   rw[DE,CK]
   simp only[sw,Ad,Af,Ae,decide_eq_false (show ¬ (x:Int)<((l.length:Nat):Int) by omega),cond_false]
   rw[List.drop_eq_nil_of_le (by omega)]
   exact ⟨_,rfl,fun _=>rfl,fun hh=>by cases hh⟩
 | n+1,x,f+1,hx,hf=>by
   obtain ⟨b,e,l1,_⟩:=hli.ld (x:=x) (by omega)
   have qx:(0≤(x:Int)∧(x:Int)<((l.length:Nat):Int))=True:=eq_true (by omega)
   have w1:Cf ((x:Int)+1)=((x+1:Nat):Int):=Ak (by unfold AU; omega)
   have hd:l.drop x=l.getD x 0::l.drop (x+1):=by
    rw[List.drop_eq_getElem_cons (by omega),List.getD_eq_getElem?_getD,List.getElem?_eq_getElem (by omega)]; rfl
   have hvx:AU (l.getD x 0):=by
    rw[List.getD_eq_getElem?_getD,List.getElem?_eq_getElem (show x<l.length by omega)]; exact hv _ (List.getElem_mem _)
   obtain ⟨o,e2,o1,o2⟩:=ib k (h0:=h0) hl hv h hb hli n (x+1) f (by omega) (by omega)
   rw[hd,List.all_cons]
   rw[e] at e2
   rw[DE,CK]
   simp only[sw,Ad,Af,Ae,decide_eq_true (show (x:Int)<((l.length:Nat):Int) by omega),cond_true,qx,if_true,e,Option.bind_some,Int.toNat_natCast,Nat.mul_one,Nat.zero_add,l1,w1,aF,u7 k h hb _ hvx,Ar]
   cases vF m (l.getD x 0) with
   | false=>
     refine ⟨_,rfl,fun hh=>?_,fun _=>⟨x,rfl⟩⟩
     rw[Bool.false_and] at hh
     cases hh
   | true=>
     simp only[Bool.not_true,cond_false,e2,Bool.true_and]
     exact ⟨o,rfl,o1,o2⟩
theorem Abz (m:HM) (r:K4):dk m r=((HF r).all (vF m) && (Hz m).all fun a=>(cP m a).all (vF m)):=rfl
theorem Aj8 (k:Nat) (hk:5000≤k) (h:An σ i m) (hM:MK m) (hp:Mj σ p r):∃ τ,Mx (k+9) (AV i) (Nc p) σ=some (.bool (dk m r),σ++τ):=by
 have hlen:=rT hp.ok
 have hal:=XV hM.nt
 obtain ⟨B,hB⟩:∃ B,A6.cells [.pointer (AV i)] FL true=B:=⟨_,rfl⟩
 have h1:=h.app [B]
 have p1:=hp.app [B]
 have b1:L8 (σ++[B]) σ.length 0=some (AV i):=by simp[L8,Gi,← hB,NJ]
 obtain ⟨τ,sl,e1,li,new⟩:=uF (k+2) (by omega) p1
 have e1':Cc (k+8) (Nc p) (σ++[B])=_:=e1
 have h2:=h1.app τ
 have b2:=dJ b1 τ
 obtain ⟨o,e2,o1,o2⟩:=ib (k+1) (h0:=σ.length) (by omega) (vC hp.ok) h2 b2 li (HF r).length 0 (k+6) (by omega) (by omega)
 rw[show ((0:Nat):Int)=0 from rfl] at e2
 rw[List.drop_zero] at o1 o2
 have f:=li.form
 have f1:sl.2.1=(HF r).length:=by rw[f]
 have f2:sl.2.2=(HF r).length:=by rw[f]
 have eC:B5 (k+8) (sl.1,(HF r).length,(HF r).length) (.func (.func 166) #[] #[.pointer (some ⟨σ.length,0,none⟩)]) (σ++[B]++τ)=some (.bool (!(HF r).all (vF m)),σ++[B]++τ):=by
  rw[Hu,EN,IQ,FF]
  simp only[sw,Ad,Af,Ae,e2,Option.bind_some]
  cases hq:(HF r).all (vF m) with
  | true=>
    rw[o1 hq]
    simp only[if_true,Option.bind_some,Aj,Bool.not_true]
    rfl
  | false=>
    obtain ⟨y,rfl⟩:=o2 hq
    simp only[reduceCtorEq,if_false,if_true,FR,Option.bind_some,Aj,Bool.not_false]
    rw[decide_eq_true (show (y:Int)≥0 by omega)]
 rw[Abz,fk,Zq]
 simp only[sw,Ad,Af,Ae,AM,hB,e1',Option.bind_some,H7,f1,f2,eC,Ar]
 cases hq:(HF r).all (vF m) with
 | false=>
   refine ⟨[B]++τ, ?_⟩
   simp only[Bool.not_false,cond_true,Bool.false_and,List.append_assoc]
 | true=>
   obtain ⟨τ3,s3,e3,li3⟩:=sN (k+2) (by omega) h2
   have e3':Bv (k+8) (AV i) (σ++[B]++τ)=_:=e3
   have li3:B6 (σ++[B]++τ++τ3) s3 (Hz m):=B6.ints li3
   obtain ⟨τ4,e4⟩:=u9 (k+1) (by omega) (h0:=σ.length) hM.inv (sl:=s3) (l:=Hz m) (by omega) (tm hM.nt) (Hz m).length 0 (k+8) _ (h2.app τ3) (dJ b2 τ3) li3 (by omega) (by omega)
   rw[show ((0:Nat):Int)=0 from rfl] at e4
   rw[List.drop_zero] at e4
   have g:=li3.form
   have g1:s3.2.1=(Hz m).length:=by rw[g]
   have g2:s3.2.2=(Hz m).length:=by rw[g]
   refine ⟨[B]++τ++τ3++τ4, ?_⟩
   simp only[Bool.not_true,cond_false,b2,Option.bind_some,e3',g1,g2,e4,Bool.true_and]
   cases ((Hz m).all fun a=>(cP m a).all (vF m)) with
   | false=>
     simp[zH,Ez]
   | true=>simp only[if_true,List.append_assoc]
theorem Acx (k:Nat) (hk:5000≤k) (T:RC σ i p c m r s) (hp:s.ph=0) (hs:dk m r=true):TG (GD (k+13) (Hy c) σ) σ i p c r (.int .i64 0) (m,ui m r s):=by
 obtain ⟨τ,e1⟩:=Aj8 (k+3) (by omega) T.h T.mo T.rt
 have e1':Mx (k+12) (AV i) (Nc p) σ=_:=e1
 have em:A8 (k+12) (Hy c) σ=_:=Yb (k+11) T.co
 have T1:=T.app τ
 obtain ⟨σ2,e2,h2,m2⟩:=T1.co.wz 0
 have T2:=T1.Zs h2 m2 ⟨T.tok.wl,T.tok.ls,T.tok.lr,T.tok.lf,T.tok.l0,T.tok.s2⟩
 obtain ⟨σ3,e3,h3,m3⟩:=T2.co.Ae7 1
 have T3:=T2.Zs h3 m3 ⟨T.tok.wl,T.tok.ls,T.tok.lr,T.tok.lf,fun _=>T.tok.l0 (by omega),fun hh=>by cases hh⟩
 obtain ⟨σ4,c4,e4,T4,m4,b4⟩:=sk k (by omega) T3 (by show (1:Int)≠2; decide)
 refine ⟨σ4,c4, ?_,T4,((((Mv.app c.l σ τ).trans m2).trans m3).trans m4).right i.l,b4⟩
 rw[Ui,MZ]
 simp only[sw,Ad,Af,Ae,em,Option.bind_some,Ar,Bool.not_true,cond_false,Nat.zero_add,Nat.add_zero,T.co.ld4,hp,bne_self_eq_false,T.co.K2,T.co.GJ,e1',hs,e2,e3,e4,M8]
theorem nS (k:Nat) (hk:5000≤k) (cb:Nat) {N:Nat} (hN:N≤10000):∀ (n x f:Nat) (σ:Aa) (c:CI) (m:HM) (s:TC),RC σ i p c m r s→c.cb=cb→x+n=N→n<f →
  ∃ σ' c',Er (k+15) f (some ⟨cb,0,none⟩) (N:Int) (x:Int) σ=some (if (EY r n (m,s)).1<n then (.ret,[.int .i64 ((x+(EY r n (m,s)).1:Nat):Int),.int .i64 0],σ') else (.exit 0,[],σ'))∧RC σ' i p c' (EY r n (m,s)).2.1 r (EY r n (m,s)).2.2∧Mv (i.l++c.l) (i.l++c'.l) σ σ'∧c'.cb=cb∧(EY r n (m,s)).1≤n
 | n,x,0,σ,c,m,s,T,hc,hx,hf=>by omega
 | 0,x,f+1,σ,c,m,s,T,hc,hx,hf=>by
   rw[LH,Ii]
   simp only[sw,Ad,Af,Ae,decide_eq_false (show ¬ (x:Int)<(N:Int) by omega),cond_false]
   exact ⟨σ,c,rfl,T,Mv.refl _ _,hc,Nat.le_refl _⟩
 | n+1,x,f+1,σ,c,m,s,T,hc,hx,hf=>by
   have w1:Cf ((x:Int)+1)=((x+1:Nat):Int):=Ak (by unfold AU; omega)
   have d4:Dg .i64 σ cb 4=some s.ph:=by rw[← hc]; exact T.co.ld4
   rw[LH,Ii,EY]
   simp only[sw,Ad,Af,Ae,decide_eq_true (show (x:Int)<(N:Int) by omega),cond_true,Option.bind_some,Nat.zero_add,Nat.add_zero,d4]
   by_cases hp:s.ph=0
   ·rw[if_pos hp,show (s.ph == 0)=true from beq_iff_eq.2 hp]
    simp only[cond_true]
    exact ⟨σ,c,by rw[if_pos (by omega)]; rfl,T,Mv.refl _ _,hc,Nat.zero_le _⟩
   ·rw[if_neg hp,show (s.ph == 0)=false from beq_eq_false_iff_ne.2 hp]
    obtain ⟨σ1,c1,e1,T1,m1,b1⟩:=Ahn k hk T
    obtain ⟨σ2,c2,e2,T2,m2,b2,n2⟩:=nS k hk cb hN n (x+1) f σ1 c1 (jA m r s).1 (jA m r s).2 T1 (b1.trans hc) (by omega) (by omega)
    have e1':DF (k+15) (some ⟨cb,0,none⟩) σ=some (.tuple #[],σ1):=by rw[← hc]; exact e1
    refine ⟨σ2,c2, ?_,T2,m1.trans m2,b2,Nat.succ_le_succ n2⟩
    simp only[cond_false,e1',Option.bind_some,M8,w1,e2]
    by_cases q:(EY r n (jA m r s)).1<n
    ·rw[if_pos q,if_pos (by omega)]
     rw[show x+1+(EY r n (jA m r s)).1=x+((EY r n (jA m r s)).1+1) from by omega]
    ·rw[if_neg q,if_neg (by omega)]
theorem Af3 (k:Nat) (hk:20000≤k) (T:RC σ i p c m r s) {N:Nat} (h1:1≤N) (hN:N≤10000):TG (Hw (k+16) (Hy c) (N:Int) σ) σ i p c r (.tuple #[.int .i64 ((EY r N (m,s)).1:Int),.int .i64 0]) (EY r N (m,s)).2:=by
 have em:A8 (k+15) (Hy c) σ=_:=Yb (k+14) T.co
 obtain ⟨σ',c',e,T',m',b',n'⟩:=nS k (by omega) c.cb hN N 0 (k+15) σ c m s T rfl (by omega) (by omega)
 rw[show ((0:Nat):Int)=0 from rfl] at e
 refine ⟨σ',c', ?_,T',m',b'⟩
 rw[VA,O8]
 simp only[sw,Ad,Af,Ae,em,Option.bind_some,Ar,Bool.not_true,cond_false,decide_eq_false (show ¬ (N:Int)<1 by omega),decide_eq_false (show ¬ (N:Int)>10000 by omega),e]
 by_cases q:(EY r N (m,s)).1<N
 ·rw[if_pos q]
  simp only[reduceCtorEq,if_false,if_true,j9,Nat.zero_add]
 ·rw[if_neg q]
  simp only[if_true]
  rw[show (EY r N (m,s)).1=N from by omega]
end Go.Proofs.YtjbledomkmdkmaaGreat
end
section
namespace Go.Proofs.YtjbledomkmdkmaaGreat
open Go Go.AX
noncomputable local instance qGQ:A9:=Aw
local instance nGQ:Kn:=⟨true⟩
variable {σ:Aa} {r:K4} {p:PI}
theorem B6.setAt {s:Ce} {l:List Int} (h:B6 σ s l) {x:Nat} (hx:x<l.length) (v:Int):∃ b,s.1=some ⟨b,0,none⟩∧b ∈ hs s∧b<σ.length∧K3 σ b x (.int .i64 v)=some (σ.set b (.cells (Bm (l.set x v)) As true))∧B6 (σ.set b (.cells (Bm (l.set x v)) As true)) s (l.set x v):=by
 obtain ⟨b,e,_,hc⟩:=h.ld hx
 have hb:=Al hc
 refine ⟨b,e,UE e,hb,yn hc hx v,.inl (.inr ⟨b, ?_,Nat.zero_le _,by rw[EI,Nat.mul_one],List.getElem?_set_self hb⟩)⟩
 have f:=h.form
 rw[f,e,List.length_set]
def sQ (r:K4) (k:Int) (mt ix:Nat):Prop:=(k=0∧mt<r.mu∧ix<16)∨(k=1∧mt=0∧ix<16)∨(k=2∧mt=0∧ix<r.qu.length)
def Yz (r:K4) (k:Int) (mt ix:Nat) (a:Int):K4:=if k=0 then { r with sl:=r.sl.set (16*mt+ix) a } else if k=1 then { r with gl:=r.gl.set ix a } else { r with qu:=r.qu.set ix a }
def ju (r:K4) (k:Int) (mt ix:Nat) (a:Int):Int × K4:=if a<0∨(a=0∧k=2) then (1,r) else (0,Yz r k mt ix a)
def VR (r:K4) (a:Int):Int × K4:=if a≤0 then (1,r) else if r.qu.length=64 then (6,r) else (0,{ r with qu:=r.qu++[a] })
theorem su {r:K4} {k:Int} {mt ix:Nat} {a v:Int} (h:v ∈ (Yz r k mt ix a).all):v=a∨v ∈ r.all:=by
 unfold Yz K4.all at h
 unfold K4.all
 have key:∀ (l:List Int) (x:Nat),v ∈ l.set x a→v=a∨v ∈ l:=fun l x hm=>(List.mem_or_eq_of_mem_set hm).symm
 split at h
 ·simp only[List.mem_append] at h ⊢
  rcases h with (h | h) | h
  ·exact (key _ _ h).imp id fun h=>.inl (.inl h)
  ·exact .inr (.inl (.inr h))
  ·exact .inr (.inr h)
 ·split at h
  ·simp only[List.mem_append] at h ⊢
   rcases h with (h | h) | h
   ·exact .inr (.inl (.inl h))
   ·exact (key _ _ h).imp id fun h=>.inl (.inr h)
   ·exact .inr (.inr h)
  ·simp only[List.mem_append] at h ⊢
   rcases h with (h | h) | h
   ·exact .inr (.inl (.inl h))
   ·exact .inr (.inl (.inr h))
   ·exact (key _ _ h).imp id fun h=>.inr h
theorem K4.ok.put (h:r.ok) (k:Int) (mt ix:Nat) {a:Int} (ha:AU a) (h0:0≤a):(Yz r k mt ix a).ok:=by
 have hm:∀ v ∈ (Yz r k mt ix a).all,AU v∧0≤v:=fun v hv=>by
  rcases su hv with rfl | hv
  ·exact ⟨ha,h0⟩
  ·exact h.inn v hv
 have e:(Yz r k mt ix a).mu=r.mu∧(Yz r k mt ix a).sl.length=r.sl.length∧(Yz r k mt ix a).gl.length=r.gl.length∧(Yz r k mt ix a).qu.length=r.qu.length:=by
  unfold Yz
  split
  ·exact ⟨rfl,List.length_set,rfl,rfl⟩
  ·split
   ·exact ⟨rfl,rfl,List.length_set,rfl⟩
   ·exact ⟨rfl,rfl,rfl,List.length_set⟩
 exact ⟨by rw[e.1]; exact h.m1,by rw[e.1]; exact h.m4,by rw[e.1,e.2.1]; exact h.sl,by rw[e.2.2.1]; exact h.gl,by rw[e.2.2.2]; exact h.qu,hm⟩
theorem Abx {r:K4} {k:Int} {mt ix:Nat} {a v:Int} (h:v ∈ (ju r k mt ix a).2.all):v=a∨v ∈ r.all:=by
 unfold ju at h
 split at h
 ·exact .inr h
 ·exact su h
theorem ya {r:K4} {a v:Int} (h:v ∈ (VR r a).2.all):v=a∨v ∈ r.all:=by
 unfold VR at h
 split at h
 ·exact .inr h
 ·split at h
  ·exact .inr h
  ·unfold K4.all at h ⊢
   simp only[List.mem_append,List.mem_singleton] at h ⊢
   rcases h with h | h | h
   ·exact .inr (.inl h)
   ·exact .inr (.inr h)
   ·exact .inl h
theorem K4.ok.push (h:r.ok) {a:Int} (ha:AU a):(VR r a).2.ok:=by
 unfold VR
 split
 ·exact h
 ·split
  ·exact h
  ·rename_i h1 h2
   have hq:=h.qu
   refine ⟨h.m1,h.m4,h.sl,h.gl,by show (r.qu++[a]).length≤64; rw[List.length_append,List.length_singleton]; omega,fun v hv=>?_⟩
   unfold K4.all at hv
   simp only[List.mem_append,List.mem_singleton] at hv
   rcases hv with hv | hv | rfl
   ·exact h.inn v (by unfold K4.all; exact List.mem_append.2 (.inl (List.mem_append.2 hv)))
   ·exact h.inn v (by unfold K4.all; exact List.mem_append.2 (.inr hv))
   ·exact ⟨ha,by omega⟩
structure wS (p:PI):Prop where
 a1:∀ q ∈ hs p.s1,q≠p.rb∧q ∉ hs p.s2∧q ∉ hs p.s3
 a2:∀ q ∈ hs p.s2,q≠p.rb∧q ∉ hs p.s3
 a3:∀ q ∈ hs p.s3,q≠p.rb
theorem wS.of (h:p.l.Nodup):wS p:=by
 unfold PI.l at h
 rw[List.nodup_cons,List.nodup_append,List.nodup_append] at h
 obtain ⟨h0,h1,⟨h2,h3,h4⟩,h5⟩:=h
 simp only[List.mem_append,not_or] at h0
 refine ⟨fun q hq=>⟨fun e=>h0.1 (e ▸ hq),fun hm=>h5 q hq q (List.mem_append.2 (.inl hm)) rfl,fun hm=>h5 q hq q (List.mem_append.2 (.inr hm)) rfl⟩,fun q hq=>⟨fun e=>h0.2.1 (e ▸ hq),fun hm=>h4 q hq q hm rfl⟩,fun q hq e=>h0.2.2 (e ▸ hq)⟩
theorem wS.nd (h:wS p):p.l.Nodup:=by
 unfold PI.l
 rw[List.nodup_cons,List.nodup_append,List.nodup_append]
 refine ⟨fun hm=>?_,Te _,⟨Te _,Te _,fun a ha b hb e=>(h.a2 a ha).2 (e ▸ hb)⟩,fun a ha b hb e=>?_⟩
 ·rcases List.mem_append.1 hm with hm | hm
  ·exact (h.a1 _ hm).1 rfl
  rcases List.mem_append.1 hm with hm | hm
  ·exact (h.a2 _ hm).1 rfl
  ·exact h.a3 _ hm rfl
 ·subst e
  rcases List.mem_append.1 hb with hb | hb
  ·exact (h.a1 _ ha).2.1 hb
  ·exact (h.a1 _ ha).2.2 hb
theorem Mj.loc (h:Mj σ p r) {k:Int} {mt ix:Nat} (hp:sQ r k mt ix):∃ b o,b ∈ p.l∧(k=0→p.s1.1=some ⟨b,0,none⟩∧o=16*mt+ix)∧(k=1→p.s2.1=some ⟨b,0,none⟩∧o=ix)∧(k=2→p.s3.1=some ⟨b,0,none⟩∧o=ix) ∧
  ∀ a,AU a→0≤a → ∃ c,K3 σ b o (.int .i64 a)=some (σ.set b c)∧Mj (σ.set b c) p (Yz r k mt ix a):=by
 have sep:=wS.of h.nd
 have hsl:=h.ok.sl
 have hgl:=h.ok.gl
 rcases hp with ⟨rfl,hm,hi⟩ | ⟨rfl,rfl,hi⟩ | ⟨rfl,rfl,hi⟩
 ·obtain ⟨b,e,hb,_⟩:=h.sl.setAt (x:=16*mt+ix) (by omega) 0
  refine ⟨b,16*mt+ix,p.m1 hb,fun _=>⟨e,rfl⟩,(fun hh=>by cases hh),(fun hh=>by cases hh),fun a ha h0=>?_⟩
  obtain ⟨b',e',_,hl,es,hl'⟩:=h.sl.setAt (x:=16*mt+ix) (by omega) a
  rw[e] at e'; cases e'
  obtain ⟨n1,n2,n3⟩:=sep.a1 b hb
  exact ⟨_,es,(by rw[List.getElem?_set_ne n1]; exact h.cell),hl',h.gl.AG fun q hq=>Lk n2 hq,h.qu.AG fun q hq=>Lk n3 hq,h.ok.put 0 mt ix ha h0,h.nd⟩
 ·obtain ⟨b,e,hb,_⟩:=h.gl.setAt (x:=ix) (by omega) 0
  refine ⟨b,ix,p.m2 hb,(fun hh=>by cases hh),fun _=>⟨e,rfl⟩,(fun hh=>by cases hh),fun a ha h0=>?_⟩
  obtain ⟨b',e',_,hl,es,hl'⟩:=h.gl.setAt (x:=ix) (by omega) a
  rw[e] at e'; cases e'
  obtain ⟨n1,n2⟩:=sep.a2 b hb
  exact ⟨_,es,(by rw[List.getElem?_set_ne n1]; exact h.cell),h.sl.AG fun q hq=>List.getElem?_set_ne fun e:b=q=>(sep.a1 q hq).2.1 (by rw[← e]; exact hb),hl',h.qu.AG fun q hq=>Lk n2 hq,h.ok.put 1 0 ix ha h0,h.nd⟩
 ·obtain ⟨b,e,hb,_⟩:=h.qu.setAt (x:=ix) hi 0
  refine ⟨b,ix,p.m3 hb,(fun hh=>by cases hh),(fun hh=>by cases hh),fun _=>⟨e,rfl⟩,fun a ha h0=>?_⟩
  obtain ⟨b',e',_,hl,es,hl'⟩:=h.qu.setAt (x:=ix) hi a
  rw[e] at e'; cases e'
  have n1:=sep.a3 b hb
  exact ⟨_,es,(by rw[List.getElem?_set_ne n1]; exact h.cell),h.sl.AG fun q hq=>List.getElem?_set_ne fun e:b=q=>(sep.a1 q hq).2.2 (by rw[← e]; exact hb),h.gl.AG fun q hq=>List.getElem?_set_ne fun e:b=q=>(sep.a2 q hq).2 (by rw[← e]; exact hb),hl',h.ok.put 2 0 ix ha h0,h.nd⟩
theorem oq (k:Nat) {b o n c ix h0:Nat} (hi:ix<n) (hl:Dg .i64 σ h0 2=some (ix:Int)):ES (k+1) (some ⟨b,o,none⟩,n,c) (some ⟨h0,0,none⟩) σ=some (.pointer (some ⟨b,o+ix,none⟩),σ):=by
 rw[Q8,JS]
 simp only[sw,Ad,Af,Ae,Option.bind_some,Nat.zero_add,hl,decide_eq_false (show ¬ (ix:Int)<0 by omega),cond_false,decide_eq_false (show ¬ (ix:Int)≥((n:Nat):Int) by omega)]
 rw[if_pos (by omega)]
 simp only[Int.toNat_natCast,Nat.mul_one]
theorem yk {s:Ce} {l:List Int} (h:B6 σ s l) {mt:Nat} {b:Nat} (e:s.1=some ⟨b,0,none⟩) (hl:16*mt+16≤l.length):∃ c,HK As 1 (s.1,l.length,l.length) (some (.int .i64 ((16*mt:Nat):Int))) (some (.int .i64 ((16*mt+16:Nat):Int))) none σ=some (some ⟨b,16*mt,none⟩,16,c):=by
 have hc:σ[b]?=some (.cells (Bm l) As true):=by
  obtain ⟨b',e',_,hc⟩:=h.ld (x:=0) (by omega)
  rw[e] at e'; cases e'; exact hc
 unfold HK
 simp only[Option.isSome_none,Bool.not_false,Bool.true_or,cond_true,e]
 rw[Ya (v:=l.length) (.inr ⟨rfl,rfl⟩) (Nat.le_refl _),Ya (v:=16*mt+16) (.inl rfl) (by omega),Ya (v:=16*mt) (.inl rfl) (by omega)]
 have e1:elemAt σ b=some As:=by simp only[elemAt,hc]
 rw[if_neg (by omega)]
 simp only[Option.bind_some,e1,if_true,Nat.zero_add,Nat.mul_one]
 exact ⟨l.length-16*mt,by simp⟩
theorem Alg (a:Addr):Od P tQ (.pointer (some a)) (.pointer none)=some false:=by kernel_rfl
theorem Akd (k:Nat) (h:Mj σ p r) {kk:Int} {mt ix b o:Nat} (hp:sQ r kk mt ix) (h0:kk=0→p.s1.1=some ⟨b,0,none⟩∧o=16*mt+ix) (h1:kk=1→p.s2.1=some ⟨b,0,none⟩∧o=ix) (h2:kk=2→p.s3.1=some ⟨b,0,none⟩∧o=ix):
  GA (k+2) (Nc p) kk (mt:Int) (ix:Int) σ=some (.pointer (some ⟨b,o,none⟩),σ++[A6.cells [.int .i64 kk,.int .i64 (mt:Int),.int .i64 (ix:Int)] AS true]):=by
 have hsl:=h.ok.sl
 have hgl:=h.ok.gl
 have hm4:=h.ok.m4
 have hA:=h.app [A6.cells [.int .i64 kk,.int .i64 (mt:Int),.int .i64 (ix:Int)] AS true]
 rw[Ub,MS]
 simp only[sw,Ad,Af,Ae,AM,Nat.zero_add,BJ,List.getElem?_cons_zero,List.getElem?_cons_succ,Option.bind_some,Aj]
 have l2:Dg .i64 (σ++[A6.cells [.int .i64 kk,.int .i64 (mt:Int),.int .i64 (ix:Int)] AS true]) σ.length 2=some (ix:Int):=by rw[BJ]; rfl
 rcases hp with ⟨rfl,hm,hi⟩ | ⟨rfl,rfl,hi⟩ | ⟨rfl,rfl,hi⟩
 ·obtain ⟨e,rfl⟩:=h0 rfl
  have f:=hA.sl.form
  have f1:p.s1.2.1=r.sl.length:=by rw[f]
  have f2:p.s1.2.2=r.sl.length:=by rw[f]
  obtain ⟨c,es⟩:=yk hA.sl (mt:=mt) e (by omega)
  have w1:Cf ((mt:Int)*16)=((16*mt:Nat):Int):=by rw[Ak (by unfold AU; omega)]; omega
  have w2:Cf ((mt:Int)+1)=((mt+1:Nat):Int):=Ak (by unfold AU; omega)
  have w3:Cf (((mt+1:Nat):Int)*16)=((16*mt+16:Nat):Int):=by rw[Ak (by unfold AU; omega)]; omega
  have ec:=oq k (b:=b) (o:=16*mt) (c:=c) hi l2
  simp only[show ((0:Int) == 0)=true from rfl,cond_true,decide_eq_true (show (mt:Int)≥0 by omega),hA.K2,Option.bind_some,decide_eq_true (show (mt:Int)<(r.mu:Int) by omega),hA.GJ,f1,f2,w1,w2,w3,es,ec,NJ,BJ,List.getElem?_cons_zero,List.getElem?_cons_succ,Aj]
 ·obtain ⟨e,rfl⟩:=h1 rfl
  have f:=hA.gl.form
  have f1:p.s2.2.1=r.gl.length:=by rw[f]
  have f2:p.s2.2.2=r.gl.length:=by rw[f]
  have ec:=oq k (b:=b) (o:=0) (n:=r.gl.length) (c:=r.gl.length) (by omega) l2
  rw[Nat.zero_add] at ec
  simp only[show ((1:Int) == 0)=false from rfl,cond_false,Option.bind_some,show ((1:Int) == 1)=true from rfl,cond_true,show (((0:Nat):Int) == 0)=true from rfl,hA.kr,e,f1,f2,ec,NJ,BJ,List.getElem?_cons_zero,List.getElem?_cons_succ,Aj]
 ·obtain ⟨e,rfl⟩:=h2 rfl
  have f:=hA.qu.form
  have f1:p.s3.2.1=r.qu.length:=by rw[f]
  have f2:p.s3.2.2=r.qu.length:=by rw[f]
  have ec:=oq k (b:=b) (o:=0) (n:=r.qu.length) (c:=r.qu.length) hi l2
  rw[Nat.zero_add] at ec
  simp only[show ((2:Int) == 0)=false from rfl,cond_false,Option.bind_some,show ((2:Int) == 1)=false from rfl,show ((2:Int) == 2)=true from rfl,cond_true,show (((0:Nat):Int) == 0)=true from rfl,hA.uu,e,f1,f2,ec,NJ,BJ,List.getElem?_cons_zero,List.getElem?_cons_succ,Aj]
theorem Aip (k:Nat) (h:Mj σ p r) {kk:Int} {mt ix:Nat} (hp:sQ r kk mt ix) (a:Int) (ha:AU a):∃ σ',Du (k+4) (Nc p) kk (mt:Int) (ix:Int) a σ=some (.int .i64 (ju r kk mt ix a).1,σ')∧Mj σ' p (ju r kk mt ix a).2∧Mv p.l p.l σ σ':=by
 obtain ⟨B,hB⟩:∃ B,A6.cells [.int .i64 kk,.int .i64 (mt:Int),.int .i64 (ix:Int)] AS true=B:=⟨_,rfl⟩
 have h3:=h.app [B,B,B]
 obtain ⟨b,o,hb,h0,h1,h2,hst⟩:=h3.loc hp
 have hA:Mj (σ++[B]++[B]) p r:=(h.app [B]).app [B]
 have ea:=Akd k hA hp h0 h1 h2
 rw[hB] at ea
 have em:=dK (k+1) hA
 have bl:∀ μ:Aa,Dg .i64 (μ++[B]) μ.length 0=some kk∧Dg .i64 (μ++[B]) μ.length 1=some (mt:Int)∧Dg .i64 (μ++[B]) μ.length 2=some (ix:Int):=fun μ=>by
  rw[← hB]
  exact ⟨by rw[BJ]; rfl,by rw[BJ]; rfl,by rw[BJ]; rfl⟩
 obtain ⟨x0,x1,x2⟩:=bl σ
 obtain ⟨y0,y1,y2⟩:=bl (σ++[B])
 have hh:σ++[B]++[B]++[B]=σ++[B,B,B]:=by simp
 have ep:ET (k+3) (Nc p) kk (mt:Int) (ix:Int) (σ++[B])=some (.tuple #[.pointer (some ⟨b,o,none⟩),.int .i64 0],σ++[B,B,B]):=by
  rw[Q9,JT]
  simp only[sw,Ad,Af,Ae,AM,hB,Nat.zero_add,Nat.reduceAdd,em,Option.bind_some,Ar,Bool.not_true,cond_false,y0,y1,y2,ea,NJ,Alg,hh]
 have z0:Dg .i64 (σ++[B,B,B]) σ.length 0=some kk:=by
  rw[show σ++[B,B,B]=σ++[B]++[B,B] from by simp,dI _ _ _ (by simp)]; exact x0
 rw[SU,LV]
 simp only[sw,Ad,Af,Ae,AM,hB,Nat.zero_add,Nat.reduceAdd,x0,x1,x2,Option.bind_some,ep,ZH,bne_self_eq_false,cond_false]
 unfold ju
 by_cases q1:a<0
 ·rw[if_pos (.inl q1),decide_eq_true q1]
  simp only[cond_true,Option.bind_some]
  exact ⟨_,rfl,h3,Mv.app _ _ _⟩
 rw[decide_eq_false q1]
 simp only[cond_false]
 by_cases q2:a=0∧kk=2
 ·rw[if_pos (.inr q2),q2.1]
  rw[q2.2] at z0
  simp only[show ((0:Int) == 0)=true from rfl,cond_true,z0,Option.bind_some,show ((2:Int) == 2)=true from rfl]
  exact ⟨_,rfl,h3,Mv.app _ _ _⟩
 ·rw[if_neg (fun hh=>hh.elim q1 q2)]
  have hb2:((bif a == 0 then some (kk == 2,σ++[B,B,B]) else some (false,σ++[B,B,B])):Option (Bool × Aa))=some (false,σ++[B,B,B]):=by
   by_cases q3:a=0
   ·have q4:kk≠2:=fun e=>q2 ⟨q3,e⟩
    rw[q3,show (kk == 2)=false from beq_eq_false_iff_ne.2 q4]; rfl
   ·rw[show (a == 0)=false from beq_eq_false_iff_ne.2 q3]; rfl
  obtain ⟨c,es,hr⟩:=hst a ha (by omega)
  simp only[z0,Option.bind_some,hb2,cond_false,es]
  exact ⟨_,rfl,hr,(Mv.app p.l σ _).trans (Mv.set _ _ hb)⟩
theorem Afz (k:Nat) (h:Mj σ p r) (a:Int) (ha:AU a):∃ σ' p',G9 (k+2) (Nc p) a σ=some (.int .i64 (VR r a).1,σ')∧Mj σ' p' (VR r a).2∧Mv p.l p'.l σ σ'∧p'.rb=p.rb:=by
 have hq:=h.ok.qu
 have hok:=h.ok.push ha
 rw[aY,Pc]
 simp only[sw,Ad,Af,Ae,dK k h,Option.bind_some,Ar,Bool.not_true,cond_false,Nat.zero_add,h.uu]
 unfold VR at hok ⊢
 by_cases q1:a≤0
 ·rw[if_pos q1,decide_eq_true q1]
  exact ⟨_,p,rfl,h,Mv.refl _ _,rfl⟩
 rw[if_neg q1] at hok ⊢
 rw[decide_eq_false q1]
 have f:=h.qu.form
 have f1:p.s3.2.1=r.qu.length:=by rw[f]
 have f2:p.s3.2.2=r.qu.length:=by rw[f]
 simp only[cond_false,f1,f2]
 by_cases q2:r.qu.length=64
 ·rw[if_pos q2,show (((r.qu.length:Nat):Int) == 64)=true from by rw[q2]; rfl]
  exact ⟨_,p,rfl,h,Mv.refl _ _,rfl⟩
 rw[if_neg q2] at hok ⊢
 rw[show (((r.qu.length:Nat):Int) == 64)=false from by rw[beq_eq_false_iff_ne]; omega]
 obtain ⟨s',μ,e1,li,m1⟩:=h.qu.push a As (by omega)
 rw[f1,f2] at e1
 have sep:=wS.of h.nd
 have lt:=h.lt
 have cell:μ[p.rb]?=_:=m1.SB h.cell fun hm=>sep.a3 _ hm rfl
 have new:∀ q ∈ hs s',q ∈ hs p.s3∨σ.length≤q:=m1.new
 have nrb:∀ q ∈ hs s',q≠p.rb:=fun q hq=>(new q hq).elim (sep.a3 q) fun hh e=>by have:=lt _ (List.mem_cons_self:p.rb ∈ p.l); omega
 have n1:∀ q ∈ hs p.s1,q ∉ hs s':=fun q hq hm=>(new q hm).elim (sep.a1 q hq).2.2 fun hh=>by have:=lt q (p.m1 hq); omega
 have n2:∀ q ∈ hs p.s2,q ∉ hs s':=fun q hq hm=>(new q hm).elim (sep.a2 q hq).2 fun hh=>by have:=lt q (p.m2 hq); omega
 have es:K3 μ p.rb 3 (.slice s'.1 s'.2.1 s'.2.2)=some (μ.set p.rb (.cells [.int .i64 (r.mu:Int),.slice p.s1.1 p.s1.2.1 p.s1.2.2,.slice p.s2.1 p.s2.2.1 p.s2.2.2,.slice s'.1 s'.2.1 s'.2.2] Rp true)):=by
  simp[K3,cell]
 have li1:B6 μ p.s1 r.sl:=h.sl.AG fun q hq=>m1.same q (h.sl.lt q hq) (sep.a1 q hq).2.2
 have li2:B6 μ p.s2 r.gl:=h.gl.AG fun q hq=>m1.same q (h.gl.lt q hq) (sep.a2 q hq).2
 simp only[cond_false,AM,e1,Option.bind_some,es]
 refine ⟨_,{ p with s3:=s' },rfl,⟨List.getElem?_set_self (Al cell),li1.AG fun q hq=>List.getElem?_set_ne (sep.a1 q hq).1.symm,li2.AG fun q hq=>List.getElem?_set_ne (sep.a2 q hq).1.symm,li.AG fun q hq=>List.getElem?_set_ne (nrb q hq).symm,hok,wS.nd ⟨fun q hq=>⟨(sep.a1 q hq).1,(sep.a1 q hq).2.1,n1 q hq⟩,fun q hq=>⟨(sep.a2 q hq).1,n2 q hq⟩,nrb⟩⟩, ?_,rfl⟩
 refine (m1.wide (K:=p.l) (K':=({ p with s3:=s' }:PI).l) (fun q hq=>p.m3 hq) fun q hq=>?_).trans (Mv.set _ _ List.mem_cons_self)
 rcases List.mem_cons.1 hq with rfl | hq
 ·exact .inl List.mem_cons_self
 rcases List.mem_append.1 hq with hq | hq
 ·exact .inl (p.m1 hq)
 rcases List.mem_append.1 hq with hq | hq
 ·exact .inl (p.m2 hq)
 ·exact .inr (.inl hq)
theorem Ajj (k:Nat) {n:Nat} (h1:1≤n) (h4:n≤4) (σ:Aa):∃ τ p,HN (k+1) (n:Int) σ=some (.tuple #[.pointer (Nc p),.int .i64 0],σ++τ)∧Mj (σ++τ) p ⟨n,List.replicate (16*n) 0,List.replicate 16 0,[]⟩ ∧ ∀ q ∈ p.l,σ.length≤q:=by
 have w1:Cf ((n:Int)*16)=((16*n:Nat):Int):=by rw[Ak (by unfold AU; omega)]; omega
 rw[cj,W9]
 simp only[sw,Ad,Af,Ae,decide_eq_false (show ¬ (n:Int)<1 by omega),cond_false,decide_eq_false (show ¬ (n:Int)>4 by omega),Option.bind_some,w1,AM]
 rw[if_pos (by omega),if_pos (by decide)]
 simp only[Int.toNat_natCast,jm,show (16:Int).toNat=16 from rfl]
 refine ⟨[.cells (Bm (List.replicate (16*n) 0)) As true,.cells (Bm (List.replicate 16 0)) As true,.cells [.int .i64 (n:Int),.slice (some ⟨σ.length,0,none⟩) (16*n) (16*n),.slice (some ⟨σ.length+1,0,none⟩) 16 16,.slice none 0 0] Rp true],⟨σ.length+2,(some ⟨σ.length,0,none⟩,16*n,16*n),(some ⟨σ.length+1,0,none⟩,16,16),(none,0,0)⟩, ?_,⟨?_, ?_, ?_,B6.nil _, ?_, ?_⟩, ?_⟩
 ·simp
 ·simp
 ·exact .inl (.inr ⟨σ.length,by simp,Nat.zero_le _,by simp[Bm],by simp⟩)
 ·exact .inl (.inr ⟨σ.length+1,by simp,Nat.zero_le _,by simp[Bm],by simp⟩)
 ·refine ⟨h1,h4,by simp,by simp,by simp,fun v hv=>?_⟩
  unfold K4.all at hv
  simp only[List.mem_append,List.mem_replicate,List.not_mem_nil,or_false] at hv
  have:v=0:=by rcases hv with hv | hv <;> exact hv.2
  subst this
  exact ⟨by unfold AU; omega,Int.le_refl _⟩
 ·simp[PI.l,hs]
 ·intro q hq
  simp[PI.l,hs] at hq
  omega
end Go.Proofs.YtjbledomkmdkmaaGreat
end
section
namespace Go.Proofs.YtjbledomkmdkmaaGreat
open Go Go.AX
noncomputable local instance qGR:A9:=Aw
local instance nGR:Kn:=⟨true⟩
variable {σ:Aa} {r:K4}
structure QI where
 qb:Nat
 ss:Ce
 sl:List Ce
 s2:Ce
 s3:Ce
def QI.l (p:QI):List Nat:=p.qb::(hs p.ss++(p.sl.flatMap hs++(hs p.s2++hs p.s3)))
def jv (l:List Ce):List Value:=l.map fun s=>.slice s.1 s.2.1 s.2.2
def chunk (l:List Int) (x:Nat):List Int:=(l.drop (16*x)).take 16
structure Ak9 (p:QI):Prop where
 a0:∀ q ∈ hs p.ss,q≠p.qb∧q ∉ p.sl.flatMap hs∧q ∉ hs p.s2∧q ∉ hs p.s3
 a1:∀ q ∈ p.sl.flatMap hs,q≠p.qb∧q ∉ hs p.s2∧q ∉ hs p.s3
 a2:∀ q ∈ hs p.s2,q≠p.qb∧q ∉ hs p.s3
 a3:∀ q ∈ hs p.s3,q≠p.qb
 nd:(p.sl.flatMap hs).Nodup
structure Nw (σ:Aa) (p:QI) (r:K4):Prop where
 cell:σ[p.qb]?=some (.cells [.slice p.ss.1 p.ss.2.1 p.ss.2.2,.slice p.s2.1 p.s2.2.1 p.s2.2.2,.slice p.s3.1 p.s3.2.1 p.s3.2.2] Dc true)
 ss:EM HJ 1 σ p.ss r.mu (jv p.sl)
 n:p.sl.length=r.mu
 inn:∀ (x:Nat) (h:x<p.sl.length),B6 σ p.sl[x] (chunk r.sl x)
 gl:B6 σ p.s2 r.gl
 qu:B6 σ p.s3 r.qu
 ok:r.ok
 sep:Ak9 p
variable {p:QI}
abbrev Y0 (p:QI):Option Addr:=some ⟨p.qb,0,none⟩
theorem QI.mem {p:QI} {q:Nat}:q ∈ p.l↔q=p.qb∨q ∈ hs p.ss∨q ∈ p.sl.flatMap hs∨q ∈ hs p.s2∨q ∈ hs p.s3:=by
 unfold QI.l; simp only[List.mem_cons,List.mem_append]
theorem QI.mi (p:QI) {x:Nat} (h:x<p.sl.length) {q:Nat} (hq:q ∈ hs p.sl[x]):q ∈ p.sl.flatMap hs:=List.mem_flatMap.2 ⟨_,List.getElem_mem h,hq⟩
theorem Nw.AG {σ':Aa} (h:Nw σ p r) (hq:∀ q ∈ p.l,σ'[q]?=σ[q]?):Nw σ' p r:=
 ⟨(hq _ (QI.mem.2 (.inl rfl))).trans h.cell,h.ss.AG fun a ha=>hq _ (QI.mem.2 (.inr (.inl (Ch.2 ⟨a,ha,rfl⟩)))),h.n,fun x hx=>(h.inn x hx).AG fun q hm=>hq q (QI.mem.2 (.inr (.inr (.inl (p.mi hx hm))))),h.gl.AG fun q hm=>hq q (QI.mem.2 (.inr (.inr (.inr (.inl hm))))),h.qu.AG fun q hm=>hq q (QI.mem.2 (.inr (.inr (.inr (.inr hm))))),h.ok,h.sep⟩
theorem Nw.lt (h:Nw σ p r):∀ q ∈ p.l,q<σ.length:=by
 intro q hq
 rcases QI.mem.1 hq with rfl | hq | hq | hq | hq
 ·exact Al h.cell
 ·obtain ⟨a,ha,rfl⟩:=Ch.1 hq; exact h.ss.lt a ha
 ·obtain ⟨s,hs',hm⟩:=List.mem_flatMap.1 hq
  obtain ⟨x,hx,rfl⟩:=List.getElem_of_mem hs'
  exact (h.inn x hx).lt q hm
 ·exact h.gl.lt q hq
 ·exact h.qu.lt q hq
theorem Nw.app (h:Nw σ p r) (τ:Aa):Nw (σ++τ) p r:=h.AG fun q hq=>List.getElem?_append_left (h.lt q hq)
theorem Nw.K2 (h:Nw σ p r):Hx σ p.qb 0=some (p.ss.1,r.mu,r.mu):=by
 have:=h.ss.form
 have e1:p.ss.2.1=r.mu:=by rw[this]
 have e2:p.ss.2.2=r.mu:=by rw[this]
 simp[Hx,Gi,h.cell,H7,e1,e2]
theorem Nw.GJ (h:Nw σ p r):Hx σ p.qb 1=some (p.s2.1,r.gl.length,r.gl.length):=by
 have:=h.gl.form
 have e1:p.s2.2.1=r.gl.length:=by rw[this]
 have e2:p.s2.2.2=r.gl.length:=by rw[this]
 simp[Hx,Gi,h.cell,H7,e1,e2]
theorem Nw.kr (h:Nw σ p r):Hx σ p.qb 2=some (p.s3.1,r.qu.length,r.qu.length):=by
 have:=h.qu.form
 have e1:p.s3.2.1=r.qu.length:=by rw[this]
 have e2:p.s3.2.2=r.qu.length:=by rw[this]
 simp[Hx,Gi,h.cell,H7,e1,e2]
theorem Alh (a:Addr):Od P HH (.pointer (some a)) (.pointer none)=some false:=by kernel_rfl
theorem jf (k:Nat) (h:Nw σ p r):BZ (k+1) (Y0 p) σ=some (.bool true,σ):=by
 have:=h.ok.m1
 rw[aW,Pa]
 simp only[sw,Ad,Af,Ae,Alh,Option.bind_some,Bool.not_false,cond_true,Nat.zero_add,Nat.add_zero,h.K2]
 rw[decide_eq_true (by omega)]
theorem tR (k:Nat) (h:Nw σ p r):EC (k+2) (Y0 p) σ=some (.int .i64 (r.mu:Int),σ):=by
 rw[Wt,KL]
 simp only[sw,Ad,Af,Ae,jf k h,Option.bind_some,Ar,Bool.not_true,cond_false,Nat.zero_add,Nat.add_zero,h.K2]
theorem Abn (k:Nat) (h:Nw σ p r):∃ (s:Ce) (τ:Aa),ER (k+2) (Y0 p) σ=some (.slice s.1 s.2.1 s.2.2,σ++τ)∧s.2.1=r.qu.length:=by
 have hq:=h.ok.qu
 have f:=h.qu.form
 have e1:p.s3.2.1=r.qu.length:=by rw[f]
 have e2:p.s3.2.2=r.qu.length:=by rw[f]
 obtain ⟨s',τ,e,hg,_⟩:=Aa1 σ p.s3 r.qu (by omega) h.qu.g
 have hA:=h.app [A6.cells [] As true]
 rw[e1,e2] at e
 refine ⟨s',[A6.cells [] As true]++τ, ?_,hg.1⟩
 rw[Z1,N6]
 simp only[sw,Ad,Af,Ae,jf k h,Option.bind_some,Ar,Bool.not_true,cond_false,AM,Nat.zero_add,hA.kr,e,List.append_assoc]
theorem rC {l:List Int} {n x:Nat} (hl:l.length=16*n) (hx:x<n):(chunk l x).length=16:=by
 unfold chunk; rw[List.length_take,List.length_drop]; omega
theorem Aal {l:List Int} {n mt ix:Nat} (hl:l.length=16*n) (hm:mt<n) (hi:ix<16) (a:Int) (x:Nat):chunk (l.set (16*mt+ix) a) x=if x=mt then (chunk l x).set ix a else chunk l x:=by
 unfold chunk
 apply List.ext_getElem?
 intro q
 by_cases e:x=mt
 ·subst e
  rw[if_pos rfl]
  simp only[List.getElem?_take,List.getElem?_drop,List.getElem?_set,List.length_take,List.length_drop]
  by_cases q1:q<16
  ·rw[if_pos q1,if_pos q1]
   by_cases q2:ix=q
   ·subst q2
    rw[if_pos rfl,if_pos (by omega),if_pos rfl,if_pos (by omega)]
   ·rw[if_neg (by omega),if_neg q2]
  ·rw[if_neg q1,if_neg (by omega),if_neg q1]
 ·rw[if_neg e]
  simp only[List.getElem?_take,List.getElem?_drop,List.getElem?_set]
  by_cases q1:q<16
  ·rw[if_pos q1,if_pos q1,if_neg (by omega)]
  ·rw[if_neg q1,if_neg q1]
theorem oM:∀ {l:List Ce} (h:(l.flatMap hs).Nodup) {x y:Nat} (hx:x<l.length) (hy:y<l.length) (hne:x≠y) {q:Nat} (h1:q ∈ hs l[x]),q ∉ hs l[y]
 | [],h,x,y,hx,hy,hne,q,h1=>by simp at hx
 | s::l,h,x,y,hx,hy,hne,q,h1=>by
   rw[List.flatMap_cons,List.nodup_append] at h
   obtain ⟨_,h2,h3⟩:=h
   cases x with
   | zero=>
     cases y with
     | zero=>exact absurd rfl hne
     | succ y=>
       intro hm
       exact h3 q h1 q (List.mem_flatMap.2 ⟨_,List.getElem_mem (by simpa using hy),hm⟩) rfl
   | succ x=>
     cases y with
     | zero=>
       intro hm
       exact h3 q hm q (List.mem_flatMap.2 ⟨_,List.getElem_mem (by simpa using hx),h1⟩) rfl
     | succ y=>exact oM h2 (by simpa using hx) (by simpa using hy) (by omega) h1
theorem Nw.loc (h:Nw σ p r) {k:Int} {mt ix:Nat} (hp:sQ r k mt ix):∃ b,b ∈ p.l∧(k=0 → ∃ (hm:mt<p.sl.length),p.sl[mt].1=some ⟨b,0,none⟩)∧(k=1→p.s2.1=some ⟨b,0,none⟩)∧(k=2→p.s3.1=some ⟨b,0,none⟩) ∧
  ∀ a,AU a→0≤a → ∃ c,K3 σ b ix (.int .i64 a)=some (σ.set b c)∧Nw (σ.set b c) p (Yz r k mt ix a):=by
 have sep:=h.sep
 have hsl:=h.ok.sl
 have hgl:=h.ok.gl
 have hn:=h.n
 rcases hp with ⟨rfl,hm,hi⟩ | ⟨rfl,rfl,hi⟩ | ⟨rfl,rfl,hi⟩
 ·have hmx:mt<p.sl.length:=by omega
  have hcl:=rC hsl hm
  obtain ⟨b,e,hb,_⟩:=(h.inn mt hmx).setAt (x:=ix) (by omega) 0
  have hbf:=p.mi hmx hb
  refine ⟨b,QI.mem.2 (.inr (.inr (.inl hbf))),fun _=>⟨hmx,e⟩,(fun hh=>by cases hh),(fun hh=>by cases hh),fun a ha h0=>?_⟩
  obtain ⟨b',e',_,hl,es,hl'⟩:=(h.inn mt hmx).setAt (x:=ix) (by omega) a
  rw[e] at e'; cases e'
  obtain ⟨n1,n2,n3⟩:=sep.a1 b hbf
  refine ⟨_,es,(by rw[List.getElem?_set_ne n1]; exact h.cell),h.ss.AG fun a ha=>List.getElem?_set_ne fun e:b=a.block=>(sep.a0 _ (Ch.2 ⟨a,ha,rfl⟩)).2.1 (by rw[← e]; exact hbf),h.n,fun x hx=>?_,h.gl.AG fun q hq=>Lk n2 hq,h.qu.AG fun q hq=>Lk n3 hq,h.ok.put 0 mt ix ha h0,h.sep⟩
  show B6 _ _ (chunk (r.sl.set _ _) x)
  rw[Aal hsl hm hi]
  by_cases ex:x=mt
  ·subst ex; rw[if_pos rfl]; exact hl'
  ·rw[if_neg ex]
   exact (h.inn x hx).AG fun q hq=>List.getElem?_set_ne fun e:b=q=>oM sep.nd hmx hx (Ne.symm ex) hb (by rw[e]; exact hq)
 ·obtain ⟨b,e,hb,_⟩:=h.gl.setAt (x:=ix) (by omega) 0
  refine ⟨b,QI.mem.2 (.inr (.inr (.inr (.inl hb)))),(fun hh=>by cases hh),fun _=>e,(fun hh=>by cases hh),fun a ha h0=>?_⟩
  obtain ⟨b',e',_,hl,es,hl'⟩:=h.gl.setAt (x:=ix) (by omega) a
  rw[e] at e'; cases e'
  obtain ⟨n1,n2⟩:=sep.a2 b hb
  exact ⟨_,es,(by rw[List.getElem?_set_ne n1]; exact h.cell),h.ss.AG fun a ha=>List.getElem?_set_ne fun e:b=a.block=>(sep.a0 _ (Ch.2 ⟨a,ha,rfl⟩)).2.2.1 (by rw[← e]; exact hb),h.n,fun x hx=>(h.inn x hx).AG fun q hq=>List.getElem?_set_ne fun e:b=q=>(sep.a1 q (p.mi hx hq)).2.1 (by rw[← e]; exact hb),hl',h.qu.AG fun q hq=>Lk n2 hq,h.ok.put 1 0 ix ha h0,h.sep⟩
 ·obtain ⟨b,e,hb,_⟩:=h.qu.setAt (x:=ix) hi 0
  refine ⟨b,QI.mem.2 (.inr (.inr (.inr (.inr hb)))),(fun hh=>by cases hh),(fun hh=>by cases hh),fun _=>e,fun a ha h0=>?_⟩
  obtain ⟨b',e',_,hl,es,hl'⟩:=h.qu.setAt (x:=ix) hi a
  rw[e] at e'; cases e'
  have n1:=sep.a3 b hb
  exact ⟨_,es,(by rw[List.getElem?_set_ne n1]; exact h.cell),h.ss.AG fun a ha=>List.getElem?_set_ne fun e:b=a.block=>(sep.a0 _ (Ch.2 ⟨a,ha,rfl⟩)).2.2.2 (by rw[← e]; exact hb),h.n,fun x hx=>(h.inn x hx).AG fun q hq=>List.getElem?_set_ne fun e:b=q=>(sep.a1 q (p.mi hx hq)).2.2 (by rw[← e]; exact hb),h.gl.AG fun q hq=>List.getElem?_set_ne fun e:b=q=>(sep.a2 q hq).2 (by rw[← e]; exact hb),hl',h.ok.put 2 0 ix ha h0,h.sep⟩
theorem Ag2 (k:Nat) (h:Nw σ p r) {kk:Int} {mt ix:Nat} (hp:sQ r kk mt ix):Jy (k+1) (Y0 p) kk (mt:Int) (ix:Int) σ=some (.bool true,σ++[A6.cells [.int .i64 kk,.int .i64 (mt:Int),.int .i64 (ix:Int)] AS true]):=by
 have hA:=h.app [A6.cells [.int .i64 kk,.int .i64 (mt:Int),.int .i64 (ix:Int)] AS true]
 rw[cf,Qs]
 simp only[sw,Ad,Af,Ae,AM,Nat.zero_add,BJ,List.getElem?_cons_zero,List.getElem?_cons_succ,Option.bind_some,Aj]
 rcases hp with ⟨rfl,hm,hi⟩ | ⟨rfl,rfl,hi⟩ | ⟨rfl,rfl,hi⟩
 ·simp only[show ((0:Int) == 0)=true from rfl,cond_true,decide_eq_true (show (mt:Int)≥0 by omega),hA.K2,Option.bind_some,decide_eq_true (show (mt:Int)<((r.mu:Nat):Int) by omega),decide_eq_true (show (ix:Int)≥0 by omega),decide_eq_true (show (ix:Int)<16 by omega),BJ,List.getElem?_cons_zero,List.getElem?_cons_succ,Aj]
 ·simp only[show ((1:Int) == 0)=false from rfl,cond_false,show ((1:Int) == 1)=true from rfl,cond_true,show (((0:Nat):Int) == 0)=true from rfl,Option.bind_some,decide_eq_true (show (ix:Int)≥0 by omega),decide_eq_true (show (ix:Int)<16 by omega),BJ,List.getElem?_cons_zero,List.getElem?_cons_succ,Aj]
 ·simp only[show ((2:Int) == 0)=false from rfl,cond_false,show ((2:Int) == 1)=false from rfl,show ((2:Int) == 2)=true from rfl,cond_true,show (((0:Nat):Int) == 0)=true from rfl,Option.bind_some,decide_eq_true (show (ix:Int)≥0 by omega),hA.kr,decide_eq_true (show (ix:Int)<((r.qu.length:Nat):Int) by omega),BJ,List.getElem?_cons_zero,List.getElem?_cons_succ,Aj]
theorem Nw.Alj (h:Nw σ p r) {x:Nat} (hx:x<p.sl.length):∃ q,p.ss.1=some ⟨q,0,none⟩∧Hx σ q x=some (p.sl[x].1,p.sl[x].2.1,p.sl[x].2.2):=by
 have hn:=h.n
 rcases h.ss with ⟨h0,_⟩ | ⟨b,e,_,_,hc⟩
 ·omega
 ·refine ⟨b,by rw[e], ?_⟩
  simp[Hx,Gi,hc,jv,List.getElem?_eq_getElem hx,H7]
theorem Ag3 (k:Nat) (h:Nw σ p r) {kk:Int} {mt ix:Nat} (hp:sQ r kk mt ix) (a:Int) (ha:AU a) (h0:0≤a):∃ σ',Jz (k+1) (Y0 p) kk (mt:Int) (ix:Int) a σ=some (.tuple #[],σ')∧Nw σ' p (Yz r kk mt ix a)∧Mv p.l p.l σ σ':=by
 have hsl:=h.ok.sl
 have hgl:=h.ok.gl
 have hA:=h.app [A6.cells [.int .i64 kk,.int .i64 (mt:Int),.int .i64 (ix:Int)] AS true]
 obtain ⟨b,hb,h0',h1,h2,hst⟩:=hA.loc hp
 obtain ⟨c,es,hr⟩:=hst a ha h0
 refine ⟨_, ?_,hr,(Mv.app p.l σ _).trans (Mv.set _ _ hb)⟩
 rw[cg,Qt]
 simp only[sw,Ad,Af,Ae,AM,Nat.zero_add,BJ,List.getElem?_cons_zero,List.getElem?_cons_succ,Option.bind_some,Aj]
 rcases hp with ⟨rfl,hm,hi⟩ | ⟨rfl,rfl,hi⟩ | ⟨rfl,rfl,hi⟩
 ·obtain ⟨hmx,e⟩:=h0' rfl
  obtain ⟨q,eq,lq⟩:=hA.Alj hmx
  have f:=(h.inn mt hmx).form
  have f1:p.sl[mt].2.1=16:=by rw[f]; exact rC hsl hm
  have q1:(0≤(mt:Int)∧(mt:Int)<((r.mu:Nat):Int))=True:=eq_true (by omega)
  have q2:(0≤(ix:Int)∧(ix:Int)<((16:Nat):Int))=True:=eq_true (by omega)
  simp only[show ((0:Int) == 0)=true from rfl,cond_true,hA.K2,Option.bind_some,q1,if_true,eq,Int.toNat_natCast,Nat.mul_one,Nat.zero_add,lq,f1,q2,e,es]
 ·have e:=h1 rfl
  have q2:(0≤(ix:Int)∧(ix:Int)<((r.gl.length:Nat):Int))=True:=eq_true (by omega)
  simp only[show ((1:Int) == 0)=false from rfl,cond_false,show ((1:Int) == 1)=true from rfl,cond_true,hA.GJ,Option.bind_some,q2,if_true,e,Int.toNat_natCast,Nat.mul_one,Nat.zero_add,es]
 ·have e:=h2 rfl
  have q2:(0≤(ix:Int)∧(ix:Int)<((r.qu.length:Nat):Int))=True:=eq_true (by omega)
  simp only[show ((2:Int) == 0)=false from rfl,cond_false,show ((2:Int) == 1)=false from rfl,hA.kr,Option.bind_some,q2,if_true,e,Int.toNat_natCast,Nat.mul_one,Nat.zero_add,es]
theorem Aio (k:Nat) (h:Nw σ p r) {kk:Int} {mt ix:Nat} (hp:sQ r kk mt ix) (a:Int) (ha:AU a):∃ σ',Hj (k+2) (Y0 p) kk (mt:Int) (ix:Int) a σ=some (.int .i64 (ju r kk mt ix a).1,σ')∧Nw σ' p (ju r kk mt ix a).2∧Mv p.l p.l σ σ':=by
 obtain ⟨B,hB⟩:∃ B,A6.cells [.int .i64 kk,.int .i64 (mt:Int),.int .i64 (ix:Int)] AS true=B:=⟨_,rfl⟩
 have hA:Nw (σ++[B]) p r:=h.app [B]
 have eh:=Ag2 k hA hp
 rw[hB] at eh
 have h2:=hA.app [B]
 have em:BZ (k+1) (Y0 p) (σ++[B])=_:=jf k hA
 have bl:∀ τ,Dg .i64 (σ++[B]++τ) σ.length 0=some kk∧Dg .i64 (σ++[B]++τ) σ.length 1=some (mt:Int)∧Dg .i64 (σ++[B]++τ) σ.length 2=some (ix:Int):=fun τ=>by
  rw[← hB]
  exact ⟨by rw[GK]; rfl,by rw[GK]; rfl,by rw[GK]; rfl⟩
 obtain ⟨x0,x1,x2⟩:=bl []
 rw[List.append_nil] at x0 x1 x2
 obtain ⟨y0,y1,y2⟩:=bl [B]
 rw[cd,Qr]
 simp only[sw,Ad,Af,Ae,AM,hB,Nat.zero_add,Nat.reduceAdd,em,Option.bind_some,Ar,Bool.not_true,cond_false,x0,x1,x2,eh]
 unfold ju
 by_cases q1:a<0
 ·rw[if_pos (.inl q1),decide_eq_true q1]
  simp only[cond_true,Option.bind_some]
  exact ⟨_,rfl,h2,(Mv.app _ _ _).trans (Mv.app _ _ _)⟩
 rw[decide_eq_false q1]
 simp only[cond_false]
 by_cases q2:a=0∧kk=2
 ·rw[if_pos (.inr q2),q2.1]
  rw[q2.2] at y0
  simp only[show ((0:Int) == 0)=true from rfl,cond_true,y0,Option.bind_some,show ((2:Int) == 2)=true from rfl]
  exact ⟨_,rfl,h2,(Mv.app _ _ _).trans (Mv.app _ _ _)⟩
 ·rw[if_neg (fun hh=>hh.elim q1 q2)]
  have hb2:((bif a == 0 then some (kk == 2,σ++[B]++[B]) else some (false,σ++[B]++[B])):Option (Bool × Aa))=some (false,σ++[B]++[B]):=by
   by_cases q3:a=0
   ·have q4:kk≠2:=fun e=>q2 ⟨q3,e⟩
    rw[q3,show (kk == 2)=false from beq_eq_false_iff_ne.2 q4]; rfl
   ·rw[show (a == 0)=false from beq_eq_false_iff_ne.2 q3]; rfl
  obtain ⟨σ',es,hr,m⟩:=Ag3 k h2 hp a ha (by omega)
  simp only[y0,Option.bind_some,hb2,cond_false,y1,y2,es,M8]
  exact ⟨_,rfl,hr,((Mv.app _ _ _).trans (Mv.app _ _ _)).trans m⟩
theorem Afy (k:Nat) (h:Nw σ p r) (a:Int) (ha:AU a):∃ σ' p',G8 (k+2) (Y0 p) a σ=some (.int .i64 (VR r a).1,σ')∧Nw σ' p' (VR r a).2∧Mv p.l p'.l σ σ'∧p'.qb=p.qb:=by
 have hq:=h.ok.qu
 have hok:=h.ok.push ha
 rw[aX,Pb]
 simp only[sw,Ad,Af,Ae,jf k h,Option.bind_some,Ar,Bool.not_true,cond_false,Nat.zero_add,h.kr]
 unfold VR at hok ⊢
 by_cases q1:a≤0
 ·rw[if_pos q1,decide_eq_true q1]
  exact ⟨_,p,rfl,h,Mv.refl _ _,rfl⟩
 rw[if_neg q1] at hok ⊢
 rw[decide_eq_false q1]
 simp only[cond_false]
 by_cases q2:r.qu.length=64
 ·rw[if_pos q2,decide_eq_true (show ((r.qu.length:Nat):Int)≥64 by omega)]
  exact ⟨_,p,rfl,h,Mv.refl _ _,rfl⟩
 rw[if_neg q2] at hok ⊢
 rw[decide_eq_false (show ¬ ((r.qu.length:Nat):Int)≥64 by omega)]
 have f:=h.qu.form
 have f1:p.s3.2.1=r.qu.length:=by rw[f]
 have f2:p.s3.2.2=r.qu.length:=by rw[f]
 obtain ⟨s',μ,e1,li,m1⟩:=h.qu.push a As (by omega)
 rw[f1,f2] at e1
 have sep:=h.sep
 have lt:=h.lt
 have cell:μ[p.qb]?=_:=m1.SB h.cell fun hm=>sep.a3 _ hm rfl
 have new:∀ q ∈ hs s',q ∈ hs p.s3∨σ.length≤q:=m1.new
 have nrb:∀ q ∈ hs s',q≠p.qb:=fun q hq=>(new q hq).elim (sep.a3 q) fun hh e=>by have:=lt _ (QI.mem.2 (.inl rfl):p.qb ∈ p.l); omega
 have n0:∀ q ∈ hs p.ss,q ∉ hs s':=fun q hq hm=>(new q hm).elim (sep.a0 q hq).2.2.2 fun hh=>by have:=lt q (QI.mem.2 (.inr (.inl hq))); omega
 have n1:∀ q ∈ p.sl.flatMap hs,q ∉ hs s':=fun q hq hm=>(new q hm).elim (sep.a1 q hq).2.2 fun hh=>by have:=lt q (QI.mem.2 (.inr (.inr (.inl hq)))); omega
 have n2:∀ q ∈ hs p.s2,q ∉ hs s':=fun q hq hm=>(new q hm).elim (sep.a2 q hq).2 fun hh=>by have:=lt q (QI.mem.2 (.inr (.inr (.inr (.inl hq))))); omega
 have es:K3 μ p.qb 2 (.slice s'.1 s'.2.1 s'.2.2)=some (μ.set p.qb (.cells [.slice p.ss.1 p.ss.2.1 p.ss.2.2,.slice p.s2.1 p.s2.2.1 p.s2.2.2,.slice s'.1 s'.2.1 s'.2.2] Dc true)):=by
  simp[K3,cell]
 have GI:∀ q,q ∈ p.l→q ∉ hs p.s3→q≠p.qb → ∀ c,(μ.set p.qb c)[q]?=σ[q]?:=fun q hq hn hne c=>by
  rw[List.getElem?_set_ne hne.symm,m1.same q (lt q hq) hn]
 simp only[cond_false,AM,e1,Option.bind_some,es]
 refine ⟨_,{ p with s3:=s' },rfl,⟨List.getElem?_set_self (Al cell),h.ss.AG fun a ha=>?_,h.n,fun x hx=>(h.inn x hx).AG fun q hq=>?_,h.gl.AG fun q hq=>?_,li.AG fun q hq=>List.getElem?_set_ne (nrb q hq).symm,hok,⟨fun q hq=>⟨(sep.a0 q hq).1,(sep.a0 q hq).2.1,(sep.a0 q hq).2.2.1,n0 q hq⟩,fun q hq=>⟨(sep.a1 q hq).1,(sep.a1 q hq).2.1,n1 q hq⟩,fun q hq=>⟨(sep.a2 q hq).1,n2 q hq⟩,nrb,sep.nd⟩⟩, ?_,rfl⟩
 ·have hm:a.block ∈ hs p.ss:=Ch.2 ⟨a,ha,rfl⟩
  exact GI _ (QI.mem.2 (.inr (.inl hm))) (sep.a0 _ hm).2.2.2 (sep.a0 _ hm).1 _
 ·have hm:=p.mi hx hq
  exact GI _ (QI.mem.2 (.inr (.inr (.inl hm)))) (sep.a1 _ hm).2.2 (sep.a1 _ hm).1 _
 ·exact GI _ (QI.mem.2 (.inr (.inr (.inr (.inl hq))))) (sep.a2 _ hq).2 (sep.a2 _ hq).1 _
 ·refine (m1.wide (K:=p.l) (K':=({ p with s3:=s' }:QI).l) (fun q hq=>QI.mem.2 (.inr (.inr (.inr (.inr hq))))) fun q hq=>?_).trans (Mv.set _ _ (QI.mem.2 (.inl rfl)))
  rcases QI.mem.1 hq with rfl | hq | hq | hq | hq
  ·exact .inl (QI.mem.2 (.inl rfl))
  ·exact .inl (QI.mem.2 (.inr (.inl hq)))
  ·exact .inl (QI.mem.2 (.inr (.inr (.inl hq))))
  ·exact .inl (QI.mem.2 (.inr (.inr (.inr (.inl hq)))))
  ·exact .inr (.inl hq)
theorem szS:IW P HJ=some 1:=by kernel_rfl
theorem byS:bytesOf P HJ=some 24:=by kernel_rfl
theorem zzS:FT P HJ=some (.slice none 0 0):=by kernel_rfl
theorem xo {n x:Nat} (hx:x<n):chunk (List.replicate (16*n) 0) x=List.replicate 16 0:=by
 unfold chunk
 rw[List.drop_replicate,List.take_replicate]
 congr 1; omega
structure Afv (lo:Nat) (μ:Aa) (h3 h5 x:Nat) (q:QI):Prop where
 cell:μ[h5]?=some (.cells [.slice q.ss.1 q.ss.2.1 q.ss.2.2,.slice (some ⟨h3,0,none⟩) 16 16,.slice none 0 0] Dc true)
 gl:μ[h3]?=some (.cells (Bm (List.replicate 16 0)) As true)
 ss:EM HJ 1 μ q.ss x (jv q.sl)
 n:q.sl.length=x
 inn:∀ (y:Nat) (h:y<q.sl.length),B6 μ q.sl[y] (List.replicate 16 0)
 fl:∀ b ∈ q.sl.flatMap hs,h5<b∧b<μ.length
 f0:∀ b ∈ hs q.ss,h5<b∧b ∉ q.sl.flatMap hs
 nd:(q.sl.flatMap hs).Nodup
 lo3:lo≤h3
 l35:h3<h5
theorem ru (k:Nat) {lo nn:Nat} (hn:nn≤4) (h3 h5:Nat):∀ (n x f:Nat) (μ:Aa) (q:QI),Afv lo μ h3 h5 x q→x+n=nn→n<f →
  ∃ μ' q',Km (k+1) f (nn:Int) h5 (x:Int) μ=some (.exit 0,[],μ')∧Afv lo μ' h3 h5 nn q'∧μ.length≤μ'.length ∧ ∀ b,b<lo→μ'[b]?=μ[b]?
 | n,x,0,μ,q,S,hx,hf=>by omega
 | 0,x,f+1,μ,q,S,hx,hf=>by
   have e:x=nn:=by omega
   subst e
   rw[WB,Qq]
   simp only[sw,Ad,Af,Ae,decide_eq_false (show ¬ (x:Int)<(x:Int) by omega),cond_false]
   exact ⟨μ,q,rfl,S,Nat.le_refl _,fun _ _=>rfl⟩
 | n+1,x,f+1,μ,q,S,hx,hf=>by
   have w1:Cf ((x:Int)+1)=((x+1:Nat):Int):=Ak (by unfold AU; omega)
   have fm:=S.ss.form
   have f1:q.ss.2.1=x:=by rw[fm]
   have f2:q.ss.2.2=x:=by rw[fm]
   have ld:Hx μ h5 0=some (q.ss.1,x,x):=by simp[Hx,Gi,S.cell,H7,f1,f2]
   have h5l:=Al S.cell
   have h35:=S.l35
   obtain ⟨B,hB⟩:∃ B,A6.cells (Bm (List.replicate 16 0)) As true=B:=⟨_,rfl⟩
   have hss:EM HJ 1 (μ++[B]) q.ss x (jv q.sl):=S.ss.app _
   obtain ⟨s',μ1,e1,g1,hs1⟩:=cN szS byS zzS rfl rfl (by decide) (by decide) (by decide) (μ++[B]) q.ss x (jv q.sl) 1 1 [.slice (some ⟨μ.length,0,none⟩) 16 16] HJ (by omega) (by decide) rfl hss
   have m1:=g1.mv
   have len1:=m1.len
   simp at len1
   have o5:h5 ∉ hs q.ss:=fun hm=>by have:=(S.f0 _ hm).1; omega
   have o3:h3 ∉ hs q.ss:=fun hm=>by have:=(S.f0 _ hm).1; omega
   have cell1:μ1[h5]?=_:=m1.SB (o:=.cells [.slice q.ss.1 q.ss.2.1 q.ss.2.2,.slice (some ⟨h3,0,none⟩) 16 16,.slice none 0 0] Dc true) (by rw[List.getElem?_append_left h5l]; exact S.cell) o5
   have es:K3 μ1 h5 0 (.slice s'.1 s'.2.1 s'.2.2)=some (μ1.set h5 (.cells [.slice s'.1 s'.2.1 s'.2.2,.slice (some ⟨h3,0,none⟩) 16 16,.slice none 0 0] Dc true)):=by simp[K3,cell1]
   obtain ⟨μ2,hμ2⟩:∃ μ2,μ1.set h5 (.cells [.slice s'.1 s'.2.1 s'.2.2,.slice (some ⟨h3,0,none⟩) 16 16,.slice none 0 0] Dc true)=μ2:=⟨_,rfl⟩
   have len2:μ2.length=μ1.length:=by rw[← hμ2]; simp
   have GI:∀ b,b<μ.length→b≠h5→b ∉ hs q.ss→μ2[b]?=μ[b]?:=fun b hb hne hn'=>by
    rw[← hμ2,List.getElem?_set_ne hne.symm,m1.same b (by simp; omega) hn',List.getElem?_append_left hb]
   have newS:∀ b ∈ hs s',b ∈ hs q.ss∨μ.length+1≤b:=fun b hb=>(m1.new b hb).imp id fun h=>by simpa using h
   have lim:μ.length ∉ hs q.ss:=fun hm=>by
    obtain ⟨a,ha,e⟩:=Ch.1 hm
    have:=S.ss.lt a ha
    omega
   have hBm:μ2[μ.length]?=some B:=by
    rw[← hμ2,List.getElem?_set_ne (by omega),m1.same _ (by simp) lim]; simp
   have S2:Afv lo μ2 h3 h5 (x+1) { q with ss:=s',sl:=q.sl++[(some ⟨μ.length,0,none⟩,16,16)] }:=by
    have hfm:∀ b,b ∈ (q.sl++[((some ⟨μ.length,0,none⟩,16,16):Ce)]).flatMap hs↔b ∈ q.sl.flatMap hs∨b=μ.length:=fun b=>by
     rw[List.flatMap_append,List.mem_append]; simp[hs]
    refine ⟨by rw[← hμ2,List.getElem?_set_self (by omega)],(GI h3 (by omega) (by omega) o3).trans S.gl, ?_,by rw[List.length_append,S.n]; rfl,fun y hy=>?_,fun b hb=>?_,fun b hb=>?_, ?_,S.lo3,S.l35⟩
    ·have:jv (q.sl++[((some ⟨μ.length,0,none⟩,16,16):Ce)])=jv q.sl++[.slice (some ⟨μ.length,0,none⟩) 16 16]:=by simp[jv]
     show EM HJ 1 μ2 s' (x+1) (jv (q.sl++_))
     rw[this]
     refine hs1.AG fun a ha=>?_
     rw[← hμ2]
     refine List.getElem?_set_ne fun e=>?_
     rcases newS a.block (Ch.2 ⟨a,ha,rfl⟩) with h' | h'
     ·exact o5 (by rw[e]; exact h')
     ·omega
    ·by_cases hy2:y<q.sl.length
     ·show B6 μ2 ((q.sl++_)[y]) _
      rw[List.getElem_append_left hy2]
      refine (S.inn y hy2).AG fun b hb=>GI b ((S.inn y hy2).lt b hb) (fun e=>?_) fun hm=>(S.f0 b hm).2 (q.mi hy2 hb)
      have:=(S.fl b (q.mi hy2 hb)).1
      omega
     ·have hy':y<(q.sl++[((some ⟨μ.length,0,none⟩,16,16):Ce)]).length:=hy
      have:y=q.sl.length:=by rw[List.length_append,List.length_singleton] at hy'; omega
      subst this
      show B6 μ2 ((q.sl++_)[q.sl.length]) _
      rw[List.getElem_append_right (Nat.le_refl _)]
      simp only[Nat.sub_self,List.getElem_cons_zero]
      exact .inl (.inr ⟨μ.length,by simp,Nat.zero_le _,by simp[Bm],by rw[hBm,← hB]⟩)
    ·rcases (hfm b).1 hb with hb | rfl
     ·have:=S.fl b hb; omega
     ·omega
    ·have hb:b ∈ hs s':=hb
     refine ⟨?_,fun hm=>?_⟩
     ·rcases newS b hb with h' | h'
      ·exact (S.f0 b h').1
      ·omega
     ·rcases (hfm b).1 hm with hm | rfl
      ·rcases newS b hb with h' | h'
       ·exact (S.f0 b h').2 hm
       ·have:=(S.fl b hm).2; omega
      ·rcases newS _ hb with h' | h'
       ·exact lim h'
       ·omega
    ·show ((q.sl++_).flatMap hs).Nodup
     rw[List.flatMap_append,List.nodup_append]
     refine ⟨S.nd,by simp[hs],fun a ha b hb e=>?_⟩
     simp[hs] at hb
     have:=(S.fl a ha).2
     omega
   obtain ⟨μ',q',e3,S3,l3,k3⟩:=ru k hn h3 h5 n (x+1) f μ2 _ S2 (by omega) (by omega)
   have hlo:=S.lo3
   refine ⟨μ',q', ?_,S3,by omega,fun b hb=>(k3 b hb).trans (GI b (by omega) (by omega) fun hm=>by have:=(S.f0 b hm).1; omega)⟩
   rw[WB,Qq]
   simp only[sw,Ad,Af,Ae,decide_eq_true (show (x:Int)<(nn:Int) by omega),cond_true,Nat.zero_add,ld,Option.bind_some]
   rw[if_pos (by decide)]
   have e1':B9 P HJ (q.ss.1,x,x) (some ⟨μ.length+1,0,none⟩,1,1) (μ++[B]++[A6.cells [.slice (some ⟨μ.length,0,none⟩) 16 16] HJ true])=some (s',μ1):=by
    have:(μ++[B]).length=μ.length+1:=by simp
    rw[this] at e1
    have hq:q.ss=(q.ss.1,x,x):=fm
    rw[← hq]; exact e1
   simp only[jm,show (16:Int).toNat=16 from rfl,AM,hB,List.length_append,List.length_singleton,e1',Option.bind_some,es,hμ2,w1,e3]
theorem Aji (k:Nat) (hk:10≤k) {n:Nat} (h1:1≤n) (h4:n≤4) (σ:Aa):∃ τ p,PF (k+2) (n:Int) σ=some (.tuple #[.pointer (Y0 p),.int .i64 0],σ++τ)∧Nw (σ++τ) p ⟨n,List.replicate (16*n) 0,List.replicate 16 0,[]⟩ ∧ ∀ q ∈ p.l,σ.length≤q:=by
 obtain ⟨μ0,hμ0⟩:∃ μ0,σ++[A6.cells (Bm (List.replicate 16 0)) As true]++[A6.cells [.slice none 0 0,.slice (some ⟨σ.length,0,none⟩) 16 16,.slice none 0 0] Dc true]=μ0:=⟨_,rfl⟩
 have S0:Afv σ.length μ0 σ.length (σ.length+1) 0 ⟨σ.length+1,(none,0,0),[],(some ⟨σ.length,0,none⟩,16,16),(none,0,0)⟩:=by
  refine ⟨by rw[← hμ0]; simp,by rw[← hμ0]; simp,EM.nil _ _ _,rfl,fun y hy=>by simp at hy,fun b hb=>by simp at hb,fun b hb=>by simp[hs] at hb,by simp,Nat.le_refl _,by omega⟩
 obtain ⟨μ',q',e,S,hl,hk'⟩:=ru k h4 σ.length (σ.length+1) n 0 (k+1) μ0 _ S0 (by omega) (by omega)
 rw[show ((0:Nat):Int)=0 from rfl] at e
 have l0:μ0.length=σ.length+2:=by rw[← hμ0]; simp
 obtain ⟨τ,hτ⟩:∃ τ,μ'=σ++τ:=by
  refine Se (by omega) fun q hq=>?_
  rw[hk' q hq,← hμ0,List.append_assoc,List.getElem?_append_left hq]
 refine ⟨τ,⟨σ.length+1,q'.ss,q'.sl,(some ⟨σ.length,0,none⟩,16,16),(none,0,0)⟩, ?_, ?_,fun q hq=>?_⟩
 ·rw[oA,bP]
  simp only[sw,Ad,Af,Ae,decide_eq_false (show ¬ (n:Int)<1 by omega),cond_false,decide_eq_false (show ¬ (n:Int)>4 by omega),Option.bind_some]
  rw[if_pos (by decide)]
  simp only[jm,show (16:Int).toNat=16 from rfl,AM,List.length_append,List.length_singleton]
  rw[hμ0]
  simp only[e,Option.bind_some,if_true,hτ]
 ·rw[← hτ]
  refine ⟨S.cell,S.ss,S.n,fun x hx=>?_, ?_,B6.nil _, ?_, ?_⟩
  ·have hx':x<n:=by have:=S.n; have hx:x<q'.sl.length:=hx; omega
   show B6 μ' q'.sl[x] (chunk (List.replicate (16*n) 0) x)
   rw[xo hx']
   exact S.inn x hx
  ·exact .inl (.inr ⟨σ.length,by simp,Nat.zero_le _,by simp[Bm],S.gl⟩)
  ·refine ⟨h1,h4,by simp,by simp,by simp,fun v hv=>?_⟩
   unfold K4.all at hv
   simp only[List.mem_append,List.mem_replicate,List.not_mem_nil,or_false] at hv
   have:v=0:=by rcases hv with hv | hv <;> exact hv.2
   subst this
   exact ⟨by unfold AU; omega,Int.le_refl _⟩
  ·have g1:∀ b ∈ q'.sl.flatMap hs,σ.length+1<b:=fun b hb=>(S.fl b hb).1
   have g0:∀ b ∈ hs q'.ss,σ.length+1<b∧b ∉ q'.sl.flatMap hs:=S.f0
   refine ⟨fun q hq=>?_,fun q hq=>?_,fun q hq=>?_,fun q hq=>by simp[hs] at hq,S.nd⟩
   ·have hq:q ∈ hs q'.ss:=hq
    have:=g0 q hq
    refine ⟨by show q≠σ.length+1; omega,this.2, ?_,by simp[hs]⟩
    simp[hs]; omega
   ·have hq:q ∈ q'.sl.flatMap hs:=hq
    have:=g1 q hq
    refine ⟨by show q≠σ.length+1; omega, ?_,by simp[hs]⟩
    simp[hs]; omega
   ·simp[hs] at hq
    refine ⟨by show q≠σ.length+1; omega,by simp[hs]⟩
 ·rcases QI.mem.1 hq with rfl | hq | hq | hq | hq
  ·show σ.length≤σ.length+1; omega
  ·have:=(S.f0 q hq).1; omega
  ·have:=(S.fl q hq).1; omega
  ·simp[hs] at hq; omega
  ·simp[hs] at hq
end Go.Proofs.YtjbledomkmdkmaaGreat
end
