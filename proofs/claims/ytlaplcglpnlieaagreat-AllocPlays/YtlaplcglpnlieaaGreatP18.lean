/- The document's heap: words, gaps, lines.; The document's heap: what turns in memory; blocks are claimed, released, retagged.; The document's heap: blo -/
import Derived.Test.YtlaplcglpnlieaaGreatP17
set_option linter.unusedVariables false
set_option linter.unusedSimpArgs false
set_option linter.unusedSectionVars false
section
namespace Go.Proofs.YtlaplcglpnlieaaGreat
open Go Go.AX
noncomputable local instance qRV:Bb:=Az
local instance zk:Kn:=⟨true⟩
variable {σ:Aa} {m:HM} {t:RM} {i:RI}
theorem Ir.app {s:EJ} {l:List Int} (h:Ir σ s l) (τ:Aa):Ir (σ++τ) s l:=
 ⟨h.1,fun hn=>by
  obtain ⟨b,c,e,hc⟩:=h.2.1 hn
  exact ⟨b,c,e,(List.getElem?_append_left (Af hc)).trans hc⟩,fun a ha=>by
  obtain ⟨cs,T,w,h1,h2⟩:=h.2.2 a ha
  exact ⟨cs,T,w,(List.getElem?_append_left (Af h1)).trans h1,h2⟩⟩
theorem fE {j:Nat} (hs:Start m j):I0 m ((2*j:Nat):Int)=true:=by
 unfold I0
 rw[decide_eq_true_eq,Int.toNat_natCast,show 2*j/2=j from by omega]
 exact ⟨by omega,by omega,hs⟩
theorem tE (k:Nat) (h:RG σ i m t) (a:Int):IV (k+1) (AY i) a σ=some (.bool (decide (0≤a∧a<(m.wds.length:Int))),σ):=by
 have hnt:=h.nt
 have hwl:=h.wl
 rw[Xi,Tt]
 have w:Ae (((m.bls.length:Nat):Int)*64)=((m.wds.length:Nat):Int):=by rw[Ad (by unfold AV; omega)]; omega
 by_cases h0:0≤a
 ·rw[decide_eq_true (show a≥0 from h0)]
  simp only[cond_true,Option.bind_some,Nat.zero_add,Nat.add_zero,h.at_.SX,h.bn,w,h0,true_and]
 ·rw[decide_eq_false (show ¬ a≥0 from h0),decide_eq_false (fun hh=>h0 hh.1)]
  simp only[cond_false,Option.bind_some]
theorem tx (k:Nat) (hk:5000≤k) (h:RG σ i m t) (a:Int):∃ τ,Hl (k+4) (AY i) a σ=some (if 0≤a∧a<(m.wds.length:Int) then .tuple #[.int .i64 (m.wds.getD a.toNat 0),.int .i64 0] else .tuple #[.int .i64 0,.int .i64 1],σ++τ):=by
 have hnt:=h.nt
 have hwl:=h.wl
 rw[Xg,Tp]
 simp only[FD (k+2) h,tE (k+2) h a,Option.bind_some,Ao,Bool.not_true,cond_false]
 by_cases hr:0≤a∧a<(m.wds.length:Int)
 rotate_left
 ·rw[decide_eq_false hr,if_neg hr]
  exact ⟨[],by simp only[Bool.not_false,cond_true,List.append_nil]⟩
 obtain ⟨n,rfl⟩:∃ n:Nat,a=(n:Int):=⟨a.toNat,by omega⟩
 rw[decide_eq_true hr,if_pos hr,Int.toNat_natCast]
 obtain ⟨τ,e⟩:=gm k hk h (n:Int)
 have hfi:Lq m (n:Int)=Rg m n:=by unfold Lq; rw[if_pos hr,Int.toNat_natCast]
 rw[hfi] at e
 cases hf:Rg m n with
 | none=>
   rw[hf] at e
   refine ⟨τ, ?_⟩
   rw[h.inv2.zero n (fun j hs h1 h2=>by
    have:=h.inv.use hs
    have:=h.inv.Ob hs h1 (by omega)
    rw[hf] at this; cases this)]
   simp only[Bool.not_true,cond_false,e,Option.bind_some,Dj,vY,cond_true]
 | some j=>
   rw[hf] at e
   obtain ⟨hs,_,f1,f2⟩:=Sx hf
   have hz:=h.inv.size hs
   obtain ⟨v1,r1,r2,r3,r4,r5,r6,_⟩:=XL h.inv hs
   have hg:=h.app τ
   obtain ⟨y,j',b,p,F⟩:=hg.found (fE hs)
   have ej:j'=j:=by have:=F.e; omega
   subst ej
   have hix:=OQ (k+1) (by omega) hg ((2*j':Nat):Int)
   have hx:=F.xl
   have rl:p.1.2.1=(AQ m j').toNat:=by rw[F.rs.1]; exact FB _ _ _
   have dl:p.2.2.1=(BB m j').toNat:=by rw[F.ds.1]; exact FB _ _ _
   obtain ⟨B,hB⟩:∃ B,AJ.cells (Bt (BE m j') p) Ac true=B:=⟨_,rfl⟩
   have st:Ip (σ++τ++[AJ.cells [.int .i64 0,.int .i64 0,.int .i64 0,.int .i64 0,.int .i64 0,.slice none 0 0,.slice none 0 0,.bool false] Ac true]) (σ++τ).length 0 [.int .i64 (BE m j').addr,.int .i64 (BE m j').id,.int .i64 (BE m j').r,.int .i64 (BE m j').d,.int .i64 (BE m j').k,.slice p.1.1 p.1.2.1 p.1.2.2,.slice p.2.1 p.2.2.1 p.2.2.2,.bool (BE m j').pin]=some (σ++τ++[B]):=by
    rw[XI,← hB]; rfl
   have lb:∀ (o:Nat),Ak .i64 (σ++τ++[B]) (σ++τ).length o=((Bt (BE m j') p)[o]?).bind (Bu .i64):=fun o=>by rw[← hB]; simp[Ak,Gr]
   have ls:∀ (o:Nat),Cr (σ++τ++[B]) (σ++τ).length o=((Bt (BE m j') p)[o]?).bind Gp:=fun o=>by rw[← hB]; simp[Cr,Gr]
   have c1:((Bt (BE m j') p)[1]?).bind (Bu .i64)=some (m.wds.getD (2*j') 0):=rfl
   have c2:((Bt (BE m j') p)[2]?).bind (Bu .i64)=some (AQ m j'):=rfl
   have c3:((Bt (BE m j') p)[3]?).bind (Bu .i64)=some (BB m j'):=rfl
   have c4:((Bt (BE m j') p)[4]?).bind (Bu .i64)=some (EG m j'):=rfl
   have c5:((Bt (BE m j') p)[5]?).bind Gp=some (p.1.1,(AQ m j').toNat,p.1.2.2):=by rw[← rl]; rfl
   have c6:((Bt (BE m j') p)[6]?).bind Gp=some (p.2.1,(BB m j').toNat,p.2.2.2):=by rw[← dl]; rfl
   obtain ⟨rn,hrn⟩:∃ rn:Nat,AQ m j'=(rn:Int):=⟨(AQ m j').toNat,by omega⟩
   obtain ⟨dn,hdn⟩:∃ dn:Nat,BB m j'=(dn:Int):=⟨(BB m j').toNat,by omega⟩
   have qx:(0≤(y:Int)∧(y:Int)<((t.ob.length:Nat):Int))=True:=eq_true (by omega)
   obtain ⟨q,hq⟩:∃ q,n=2*j'+q:=⟨n-2*j',by omega⟩
   subst hq
   have w0:Ae (((2*j'+q:Nat):Int)-((2*j':Nat):Int))=(q:Int):=by rw[Ad (by unfold AV; omega)]; omega
   have w2:Ae (2+((rn:Nat):Int))=((2+rn:Nat):Int):=by rw[Ad (by unfold AV; omega)]; omega
   have w3:Ae (((2+rn:Nat):Int)+((dn:Nat):Int))=((2+rn+dn:Nat):Int):=by rw[Ad (by unfold AV; omega)]; omega
   refine ⟨τ++[B], ?_⟩
   simp only[Bool.not_true,cond_false,e,Option.bind_some,Dj,bne_self_eq_false,Nat.zero_add,Nat.add_zero,Nat.add_assoc,Nat.reduceAdd,hg.at_.HA,hix,Am,F.idx,qx,if_true,F.os,Int.toNat_natCast,F.ld.l0,F.ld.l1,F.ld.l2,F.ld.l3,F.ld.l4,F.ld.l5,F.ld.l6,F.ld.l7,An,st,w0,lb,ls,c1,c2,c3,c4,c5,c6]
   rw[← List.append_assoc]
   by_cases q0:q=0
   ·subst q0
    simp only[show ((((0:Nat):Int)) == 0)=true from rfl,cond_true,Nat.add_zero]
   rw[show (((q:Nat):Int) == 0)=false from beq_eq_false_iff_ne.2 (by omega)]
   by_cases q1:q=1
   ·subst q1
    have wk:Ae ((Ae (AQ m j'+Ae (16*BB m j')))+Ae (4096*EG m j'))=m.wds.getD (2*j'+1) 0:=by
     rw[Ad (n:=16*BB m j') (by unfold AV; omega),Ad (n:=4096*EG m j') (by unfold AV; omega),Ad (n:=AQ m j'+16*BB m j') (by unfold AV; omega),Ad (by unfold AV; omega),v1]
    simp only[show ((((1:Nat):Int)) == 1)=true from rfl,cond_true,cond_false,wk]
   rw[show (((q:Nat):Int) == 1)=false from beq_eq_false_iff_ne.2 (by omega)]
   have wq:Ae ((q:Int)-2)=((q-2:Nat):Int):=by rw[Ad (by unfold AV; omega)]; omega
   have rt:(AQ m j').toNat=rn:=by omega
   have dt:(BB m j').toNat=dn:=by omega
   simp only[cond_false,rt,dt,w2,w3,wq]
   by_cases q2:q<2+rn
   ·obtain ⟨b2,e2,l2,_⟩:=(F.rs.app [B]).vt (x:=q-2) (by show _<(Om m _ _).length; rw[FB]; omega)
    have qy:(0≤((q-2:Nat):Int)∧((q-2:Nat):Int)<((rn:Nat):Int))=True:=eq_true (by omega)
    rw[decide_eq_true (show (q:Int)<((2+rn:Nat):Int) by omega)]
    simp only[cond_true,qy,if_true,e2,Option.bind_some,Int.toNat_natCast,Nat.zero_add,Nat.mul_one,l2]
    rw[show (BE m j').refs.getD (q-2) 0=m.wds.getD (2*j'+2+(q-2)) 0 from XZ m (by omega),show 2*j'+2+(q-2)=2*j'+q from by omega]
   rw[decide_eq_false (show ¬ (q:Int)<((2+rn:Nat):Int) by omega)]
   by_cases q3:q<2+rn+dn
   ·obtain ⟨b2,e2,l2,_⟩:=(F.ds.app [B]).vt (x:=q-2-rn) (by show _<(Om m _ _).length; rw[FB]; omega)
    have wq':Ae (((q-2:Nat):Int)-((rn:Nat):Int))=((q-2-rn:Nat):Int):=by rw[Ad (by unfold AV; omega)]; omega
    have qy:(0≤((q-2-rn:Nat):Int)∧((q-2-rn:Nat):Int)<((dn:Nat):Int))=True:=eq_true (by omega)
    rw[decide_eq_true (show (q:Int)<((2+rn+dn:Nat):Int) by omega)]
    simp only[cond_true,cond_false,wq',qy,if_true,e2,Option.bind_some,Int.toNat_natCast,Nat.zero_add,Nat.mul_one,l2]
    rw[show (BE m j').data.getD (q-2-rn) 0=m.wds.getD (2*j'+2+(AQ m j').toNat+(q-2-rn)) 0 from XZ m (by omega),show 2*j'+2+(AQ m j').toNat+(q-2-rn)=2*j'+q from by omega]
   ·rw[decide_eq_false (show ¬ (q:Int)<((2+rn+dn:Nat):Int) by omega)]
    simp only[cond_false]
    rw[h.inv2.zero (2*j'+q) (fun j hj h1 h2=>by
     have u:=h.inv.use hj
     have:j=j':=by
      have g1:=h.inv.Ob hj h1 (by omega)
      rw[hf] at g1; cases g1; rfl
     subst this
     omega)]
theorem cO (k:Nat) (hk:5000≤k) (h:RG σ i m t) (L:List Nat) (hL:∀ j ∈ L,Start m j) (hLl:L.length≤2048) {lo':Nat} (s:EJ) (hs:Dl lo' σ s (CK L)):∀ (n x f a:Nat) (τ:Aa) (o:EJ) (R:List (Nat × Nat)),BU Aj 2 (σ++τ) o R.length (Bh R)→(∀ q,o.1=some q→σ.length≤q.block)→R.length≤x→a≤5000→x+n=L.length→n<f →
  ∃ τ' o',D9 (k+3) f (AY i) s.1 s.2.1 s.2.2 (o.1,o.2.1,o.2.2) (a:Int) (x:Int) (σ++τ)=some (.exit 0,[.slice o'.1 o'.2.1 o'.2.2,.int .i64 ((ET m (L.drop x) a).2:Int)],σ++τ')∧BU Aj 2 (σ++τ') o' (R++(ET m (L.drop x) a).1).length (Bh (R++(ET m (L.drop x) a).1))∧(∀ q,o'.1=some q→σ.length≤q.block)∧(ET m (L.drop x) a).2≤5000∧(R++(ET m (L.drop x) a).1).length≤L.length
 | 0,x,0,a,τ,o,R,hR,ho,hr,ha,hx,hf=>by omega
 | 0,x,f+1,a,τ,o,R,hR,ho,hr,ha,hx,hf=>by
   have al:(CK L).length=L.length:=by simp[CK]
   have sl:s.2.1=L.length:=by rw[← al]; exact hs.sl.len
   rw[NX,LA,List.drop_eq_nil_of_le (by omega)]
   have q:decide ((x:Int)<((s.2.1:Nat):Int))=false:=decide_eq_false (by omega)
   exact ⟨τ,o,by simp only[q,cond_false,ET],by simpa [ET] using hR,ho,ha,by simp[ET]; omega⟩
 | n+1,x,0,a,τ,o,R,hR,ho,hr,ha,hx,hf=>by omega
 | n+1,x,f+1,a,τ,o,R,hR,ho,hr,ha,hx,hf=>by
   have al:(CK L).length=L.length:=by simp[CK]
   have hxl:x<L.length:=by omega
   have hst:=hL _ (List.getElem_mem hxl)
   have hfit:=h.inv.fit _ hst
   have hz:=h.inv.size hst
   have hnt:=h.nt
   have hwl:=h.wl
   have hsj:=hst.1
   obtain ⟨b1,e1,hb1,c1,ldA⟩:=ints_at hs (x:=x) (by omega)
   rw[RB L hxl] at ldA
   have hbl:=Af c1
   have ldA':∀ τ1:Aa,Ak .i64 (σ++τ1) b1 x=some ((2*L[x]:Nat):Int):=fun τ1=>by
    rw[← ldA]; simp only[Ak,Gr,List.getElem?_append_left hbl]
   have eT:ET m (L.drop x) a=(Kh a (2*L[x])++(ET m (L.drop (x+1)) (2*L[x]+sz m L[x])).1,(ET m (L.drop (x+1)) (2*L[x]+sz m L[x])).2):=by
    rw[List.drop_eq_getElem_cons hxl]; rfl
   have qx:(0≤(x:Int)∧(x:Int)<((L.length:Nat):Int))=True:=eq_true (by omega)
   have q0:decide ((x:Int)<((L.length:Nat):Int))=true:=decide_eq_true (by omega)
   have w1:Ae ((x:Int)+1)=((x+1:Nat):Int):=Ad (by unfold AV; omega)
   have w2:Ae (((2*L[x]:Nat):Int)+(sz m L[x]:Int))=((2*L[x]+sz m L[x]:Nat):Int):=by rw[Ad (by unfold AV; omega)]; omega
   have hgl:(Kh a (2*L[x])).length≤1:=by unfold Kh; split <;> simp
   have tail:∀ (τ1:Aa) (o1:EJ),BU Aj 2 (σ++τ1) o1 (R++Kh a (2*L[x])).length (Bh (R++Kh a (2*L[x])))→(∀ q,o1.1=some q→σ.length≤q.block) →
     ∃ (y b2:Nat) (e3:i.os.1=some ⟨b2,0,none⟩) (e4:y<t.ob.length) (e5:AA (k+3) (AY i) ((2*L[x]:Nat):Int) (σ++τ1)=some (.int .i64 (y:Int),σ++τ1)) (e6:Ak .i64 (σ++τ1) b2 (y*8+2)=some (AQ m L[x])) (e7:Ak .i64 (σ++τ1) b2 (y*8+3)=some (BB m L[x])) (e8:Ak .i64 (σ++τ1) b2 (y*8+4)=some (EG m L[x])) (τ2:Aa) (e9:BG (k+3) (AQ m L[x]) (BB m L[x]) (EG m L[x]) (σ++τ1)=some (.int .i64 (sz m L[x]:Int),σ++τ2)) (τ':Aa) (o':EJ),
      D9 (k+3) f (AY i) s.1 s.2.1 s.2.2 (o1.1,o1.2.1,o1.2.2) ((2*L[x]+sz m L[x]:Nat):Int) ((x+1:Nat):Int) (σ++τ2)=some (.exit 0,[.slice o'.1 o'.2.1 o'.2.2,.int .i64 ((ET m (L.drop x) a).2:Int)],σ++τ')∧BU Aj 2 (σ++τ') o' (R++(ET m (L.drop x) a).1).length (Bh (R++(ET m (L.drop x) a).1))∧(∀ q,o'.1=some q→σ.length≤q.block)∧(ET m (L.drop x) a).2≤5000∧(R++(ET m (L.drop x) a).1).length≤L.length:=by
    intro τ1 o1 s1 n1
    have hg:=h.app τ1
    obtain ⟨y,j',b2,p,F⟩:=hg.found (fE hst)
    have ej:j'=L[x]:=by have:=F.e; omega
    subst ej
    obtain ⟨τ2,e9⟩:=HG (k+1) (AQ m L[x]) (BB m L[x]) (EG m L[x]) (σ++τ1)
    rw[(XL h.inv hst).2.2.2.2.2.2.2,List.append_assoc] at e9
    have s2:BU Aj 2 (σ++(τ1++τ2)) o1 (R++Kh a (2*L[x])).length (Bh (R++Kh a (2*L[x]))):=by rw[← List.append_assoc]; exact s1.app τ2
    obtain ⟨τ',o',r1,r2,r3,r4,r5⟩:=cO k hk h L hL hLl s hs n (x+1) f (2*L[x]+sz m L[x]) (τ1++τ2) o1 (R++Kh a (2*L[x])) s2 n1 (by rw[List.length_append]; omega) (by omega) (by omega) (by omega)
    rw[eT]
    rw[List.append_assoc] at r2 r5
    exact ⟨y,b2,F.os,F.xl,by rw[← F.idx]; exact OQ (k+1) (by omega) hg _,F.ld.l2,F.ld.l3,F.ld.l4,τ1++τ2,e9,τ',o',r1,r2,r3,r4,r5⟩
   subst e1
   rw[NX,LA]
   simp only[al] at *
   by_cases hc:a<2*L[x]
   ·obtain ⟨o1,τ1,ea,s1,n1⟩:=Of kF jU kM rfl rfl (by decide) (by decide) (by decide) σ τ o R.length (Bh R) 1 1 (Bh [(a,2*L[x]-a)]) Aj (by omega) (by decide) rfl hR ho
    have ea':Be P Aj (o.1,o.2.1,o.2.2) (some ⟨(σ++τ).length,0,none⟩,1,1) (σ++τ++[AJ.cells [.int .i64 (a:Int),.int .i64 ((2*L[x]-a:Nat):Int)] Aj true])=some (o1,σ++τ1):=ea
    have gl:Kh a (2*L[x])=[(a,2*L[x]-a)]:=by unfold Kh; rw[if_pos hc]
    obtain ⟨y,b2,e3,e4,e5,e6,e7,e8,τ2,e9,τ',o',r1,r2,r3,r4,r5⟩:=tail τ1 o1 (by rw[gl,LY,List.length_append]; exact s1) n1
    refine ⟨τ',o', ?_,r2,r3,r4,r5⟩
    have w:Ae (((2*L[x]:Nat):Int)-(a:Int))=((2*L[x]-a:Nat):Int):=by rw[Ad (by unfold AV; omega)]; omega
    have qy:(0≤(y:Int)∧(y:Int)<((t.ob.length:Nat):Int))=True:=eq_true (by omega)
    simp only[q0,cond_true,qx,if_true,Option.bind_some,Nat.zero_add,Nat.add_zero,Nat.add_assoc,Nat.reduceAdd,Int.toNat_natCast,Nat.mul_one,ldA',decide_eq_true (show ((2*L[x]:Nat):Int)>(a:Int) by omega),An,w,ea',H5,(h.app τ1).at_.HA,e5,Am,qy,e3,e6,e7,e8,e9,w2,w1]
    exact r1
   ·have gl:Kh a (2*L[x])=[]:=by unfold Kh; rw[if_neg hc]
    obtain ⟨y,b2,e3,e4,e5,e6,e7,e8,τ2,e9,τ',o',r1,r2,r3,r4,r5⟩:=tail τ o (by rw[gl,List.append_nil]; exact hR) ho
    refine ⟨τ',o', ?_,r2,r3,r4,r5⟩
    have qy:(0≤(y:Int)∧(y:Int)<((t.ob.length:Nat):Int))=True:=eq_true (by omega)
    simp only[q0,cond_true,cond_false,qx,if_true,Option.bind_some,Nat.zero_add,Nat.add_zero,Nat.add_assoc,Nat.reduceAdd,Int.toNat_natCast,Nat.mul_one,ldA',decide_eq_false (show ¬ ((2*L[x]:Nat):Int)>(a:Int) by omega),H5,(h.app τ).at_.HA,e5,Am,qy,e3,e6,e7,e8,e9,w2,w1]
    exact r1
def H8 (m:HM) (b:Int):List (Nat × Nat):=if Ij m b=1 then fy m b.toNat else []
theorem cf {b:Int} (h:Ij m b=1):∃ n:Nat,b=(n:Int)∧n<m.bls.length∧(m.bls.getD n (0,0)).1=1:=by
 unfold Ij at h
 split at h
 ·rename_i hb
  refine ⟨b.toNat,by omega,by omega,h⟩
 ·cases h
theorem PD (m:HM) (b:Int):(H8 m b).length≤33:=by
 have aux:∀ (L:List Nat) (a:Nat),(ET m L a).1.length≤L.length:=by
  intro L
  induction L with
  | nil=>intro a; exact Nat.le_refl _
  | cons j L ih=>
    intro a
    have:=ih (2*j+sz m j)
    have:(Kh a (2*j)).length≤1:=by unfold Kh; split <;> simp
    rw[ET,List.length_append,List.length_cons]; omega
 unfold H8
 split
 ·unfold fy
  have:=aux (Cb m (32*b.toNat) 32) (64*b.toNat)
  have:=KK m (32*b.toNat) 32
  have:(Kh (ET m (Cb m (32*b.toNat) 32) (64*b.toNat)).2 (64*b.toNat+64)).length≤1:=by unfold Kh; split <;> simp
  rw[List.length_append]; omega
 ·simp
theorem mq (k:Nat) (hk:5000≤k) (h:RG σ i m t) (b:Int):∃ τ s,FV (k+4) (AY i) b σ=some (.slice s.1 s.2.1 s.2.2,σ++τ)∧BU Aj 2 (σ++τ) s (H8 m b).length (Bh (H8 m b)) ∧ ∀ a,s.1=some a→σ.length≤a.block:=by
 have hnt:=h.nt
 have hwl:=h.wl
 rw[Xd,Tm]
 have eS:AL (k+3) (AY i) b σ=_:=PH (k+1) h b
 simp only[eS,Option.bind_some,Am]
 unfold H8
 by_cases hc:Ij m b=1
 rotate_left
 ·rw[if_neg hc,bne_iff_ne.2 hc]
  exact ⟨[],(none,0,0),by simp only[cond_true,List.append_nil],BU.nil _ _ _,by intro a ha; cases ha⟩
 rw[if_pos hc,hc]
 obtain ⟨n,rfl,hn,hst⟩:=cf hc
 obtain ⟨τ1,s,e1,i1⟩:=XA (k+1) (by omega) h (n:Int)
 have eO:UA m (n:Int)=Cb m (32*n) 32:=by unfold UA; rw[if_pos (by omega),Int.toNat_natCast]
 rw[eO] at i1
 have hg:=h.app τ1
 have hL:∀ j ∈ Cb m (32*n) 32,Start m j:=by
  intro j hj
  obtain ⟨a,b',c⟩:=KD.1 hj
  exact ⟨by omega,c⟩
 have hLl:=KK m (32*n) 32
 obtain ⟨τ2,o2,e2,s2,n2,m4,m5⟩:=cO k hk hg _ hL (by omega) s i1 (Cb m (32*n) 32).length 0 (k+3) (64*n) [] (none,0,0) [] (BU.nil _ _ _) (by intro a ha; cases ha) (Nat.zero_le _) (by omega) (by omega) (by omega)
 rw[List.drop_zero,List.nil_append] at s2 m5
 rw[List.drop_zero,List.append_nil] at e2
 rw[List.drop_zero] at m4
 have e2':D9 (k+3) (k+3) (AY i) s.1 s.2.1 s.2.2 (none,0,0) ((64*n:Nat):Int) 0 (σ++τ1)=_:=e2
 have w1:Ae ((n:Int)*64)=((64*n:Nat):Int):=by rw[Ad (by unfold AV; omega)]; omega
 have w2:Ae ((n:Int)+1)=((n+1:Nat):Int):=by rw[Ad (by unfold AV; omega)]; omega
 have w3:Ae (((n+1:Nat):Int)*64)=((64*n+64:Nat):Int):=by rw[Ad (by unfold AV; omega)]; omega
 rw[Int.toNat_natCast]
 unfold fy
 generalize hG:ET m (Cb m (32*n) 32) (64*n)=G at e2' s2 m4 m5
 by_cases hq:G.2<64*n+64
 ·obtain ⟨o3,τ3,ea,s3,n3⟩:=Of kF jU kM rfl rfl (by decide) (by decide) (by decide) (σ++τ1) τ2 o2 G.1.length (Bh G.1) 1 1 (Bh [(G.2,64*n+64-G.2)]) Aj (by omega) (by decide) rfl s2 n2
  have ea':Be P Aj (o2.1,o2.2.1,o2.2.2) (some ⟨(σ++τ1++τ2).length,0,none⟩,1,1) (σ++τ1++τ2++[AJ.cells [.int .i64 (G.2:Int),.int .i64 ((64*n+64-G.2:Nat):Int)] Aj true])=some (o3,σ++τ1++τ3):=ea
  have gl:Kh G.2 (64*n+64)=[(G.2,64*n+64-G.2)]:=by unfold Kh; rw[if_pos hq]
  have w:Ae (((64*n+64:Nat):Int)-(G.2:Int))=((64*n+64-G.2:Nat):Int):=by rw[Ad (by unfold AV; omega)]; omega
  refine ⟨τ1++τ3,o3, ?_, ?_,fun a ha=>by have:=n3 a ha; simp at this; omega⟩
  ·simp only[bne_self_eq_false,cond_false,e1,Option.bind_some,Gp,w1,e2',if_true,pS,w2,w3,decide_eq_true (show (G.2:Int)<((64*n+64:Nat):Int) by omega),cond_true,An,w,ea',H5]
   rw[List.append_assoc]
  ·rw[gl,LY,List.length_append,← List.append_assoc]; exact s3
 ·have gl:Kh G.2 (64*n+64)=[]:=by unfold Kh; rw[if_neg hq]
  refine ⟨τ1++τ2,o2, ?_, ?_,fun a ha=>by have:=n2 a ha; simp at this; omega⟩
  ·simp only[bne_self_eq_false,cond_false,e1,Option.bind_some,Gp,w1,e2',if_true,pS,w2,w3,decide_eq_false (show ¬ (G.2:Int)<((64*n+64:Nat):Int) by omega),cond_false,H5]
   rw[List.append_assoc]
  ·rw[gl,List.append_nil,← List.append_assoc]; exact s2
def PE (m:HM) (b n:Nat):List Bool:=(List.range n).map fun x=>aX m (64*b+8*x) 8
theorem lY (m:HM) (b n:Nat):PE m b (n+1)=PE m b n++[aX m (64*b+8*n) 8]:=by
 unfold PE; rw[List.range_succ,List.map_append]; rfl
theorem LU (m:HM) (b n:Nat):(PE m b n).length=n:=by unfold PE; simp
theorem qp (l l':List Bool):FJ (l++l')=FJ l++FJ l':=by unfold FJ; rw[List.map_append]
theorem xS:Ik P Dv=some 1:=by kernel_rfl
theorem xG:bytesOf P Dv=some 1:=by kernel_rfl
theorem xX:Fj P Dv=some (.bool false):=by kernel_rfl
def DO (m:HM) (b:Int):List Bool:=if Ij m b=1 then PE m b.toNat 8 else []
theorem au (k:Nat) (hk:5000≤k) (h:RG σ i m t) {b x:Nat} (hb:b<m.bls.length) (hx:x<8):∀ (n y f:Nat) (is:Bool) (τ:Aa),y+n=8→n<f →
  ∃ τ',En (k+3) f (AY i) (b:Int) (x:Int) is (y:Int) (σ++τ)=some (.exit 2,[.bool (is || aX m (64*b+8*x+y) n)],σ++τ')
 | 0,y,0,is,τ,hy,hf=>by omega
 | 0,y,f+1,is,τ,hy,hf=>by
   rw[MY,Lb,aX,Bool.or_false]
   exact ⟨τ,by simp only[decide_eq_false (show ¬ (y:Int)<8 by omega),cond_false]⟩
 | n+1,y,0,is,τ,hy,hf=>by omega
 | n+1,y,f+1,is,τ,hy,hf=>by
   have hnt:=h.nt
   have hwl:=h.wl
   have hg:=h.app τ
   obtain ⟨τ1,e1⟩:=gm k hk hg ((64*b+8*x+y:Nat):Int)
   have w1:Ae ((b:Int)*64)=((64*b:Nat):Int):=by rw[Ad (by unfold AV; omega)]; omega
   have w2:Ae ((x:Int)*8)=((8*x:Nat):Int):=by rw[Ad (by unfold AV; omega)]; omega
   have w3:Ae (((64*b:Nat):Int)+((8*x:Nat):Int))=((64*b+8*x:Nat):Int):=by rw[Ad (by unfold AV; omega)]; omega
   have w4:Ae (((64*b+8*x:Nat):Int)+(y:Int))=((64*b+8*x+y:Nat):Int):=by rw[Ad (by unfold AV; omega)]; omega
   have w5:Ae ((y:Int)+1)=((y+1:Nat):Int):=Ad (by unfold AV; omega)
   have hfi:Lq m ((64*b+8*x+y:Nat):Int)=Rg m (64*b+8*x+y):=by unfold Lq; rw[if_pos (by omega),Int.toNat_natCast]
   rw[hfi,List.append_assoc] at e1
   obtain ⟨τ2,e2⟩:=au k hk h hb hx n (y+1) f (is || (Rg m (64*b+8*x+y)).isSome) (τ++τ1) (by omega) (by omega)
   refine ⟨τ2, ?_⟩
   rw[show 64*b+8*x+(y+1)=64*b+8*x+y+1 from by omega] at e2
   rw[MY,Lb,aX,← Bool.or_assoc]
   simp only[decide_eq_true (show (y:Int)<8 by omega),cond_true,w1,w2,w3,w4,w5,e1,Option.bind_some]
   rw[← e2]
   cases Rg m (64*b+8*x+y) with
   | none=>cases is <;> simp only[Dj,Option.bind_some,cond_true,cond_false,show ((4:Int) == 0)=false from rfl,Option.isSome_none,Bool.or_false,Bool.or_self]
   | some j=>cases is <;> simp only[Dj,Option.bind_some,cond_true,cond_false,beq_self_eq_true,Option.isSome_some,Bool.or_true,Bool.or_self]
theorem ar (k:Nat) (hk:5000≤k) (h:RG σ i m t) {b:Nat} (hb:b<m.bls.length):∀ (n x f:Nat) (τ:Aa) (o:EJ),BU Dv 1 (σ++τ) o x (FJ (PE m b x))→(∀ q,o.1=some q→σ.length≤q.block)→x+n=8→n<f →
  ∃ τ' o',Em (k+3) f (AY i) (b:Int) (o.1,o.2.1,o.2.2) (x:Int) (σ++τ)=some (.exit 0,[.slice o'.1 o'.2.1 o'.2.2],σ++τ')∧BU Dv 1 (σ++τ') o' 8 (FJ (PE m b 8))∧(∀ q,o'.1=some q→σ.length≤q.block)
 | 0,x,0,τ,o,hR,ho,hx,hf=>by omega
 | 0,x,f+1,τ,o,hR,ho,hx,hf=>by
   have:x=8:=by omega
   subst this
   rw[MX,La]
   exact ⟨τ,o,by simp only[show decide (((8:Nat):Int)<8)=false from rfl,cond_false],hR,ho⟩
 | n+1,x,0,τ,o,hR,ho,hx,hf=>by omega
 | n+1,x,f+1,τ,o,hR,ho,hx,hf=>by
   obtain ⟨τ1,e1⟩:=au k hk (h.app τ) hb (show x<8 by omega) 8 0 (k+3) false [] (by omega) (by omega)
   rw[Nat.add_zero,Bool.false_or,List.append_nil,List.append_assoc] at e1
   have e1':En (k+3) (k+3) (AY i) (b:Int) (x:Int) false 0 (σ++τ)=_:=e1
   have hR1:BU Dv 1 (σ++(τ++τ1)) o x (FJ (PE m b x)):=by rw[← List.append_assoc]; exact hR.app τ1
   obtain ⟨o2,τ2,ea,s2,n2⟩:=Of xS xG xX rfl rfl (by decide) (by decide) (by decide) σ (τ++τ1) o x (FJ (PE m b x)) 1 1 (FJ [aX m (64*b+8*x) 8]) Dv (by omega) (by decide) rfl hR1 ho
   have ea':Be P Dv (o.1,o.2.1,o.2.2) (some ⟨(σ++(τ++τ1)).length,0,none⟩,1,1) (σ++(τ++τ1)++[AJ.cells [.bool (aX m (64*b+8*x) 8)] Dv true])=some (o2,σ++τ2):=ea
   rw[← qp,← lY] at s2
   obtain ⟨τ3,o3,e3,s3,n3⟩:=ar k hk h hb n (x+1) f τ2 o2 s2 n2 (by omega) (by omega)
   refine ⟨τ3,o3, ?_,s3,n3⟩
   have w5:Ae ((x:Int)+1)=((x+1:Nat):Int):=Ad (by unfold AV; omega)
   rw[MX,La]
   simp only[decide_eq_true (show (x:Int)<8 by omega),cond_true,e1',Option.bind_some,if_true,VK,An,Nat.add_zero,ea',w5]
   exact e3
theorem jy (k:Nat) (hk:5000≤k) (h:RG σ i m t) (b:Int):∃ τ s,Fm (k+4) (AY i) b σ=some (.slice s.1 s.2.1 s.2.2,σ++τ)∧BU Dv 1 (σ++τ) s (DO m b).length (FJ (DO m b)) ∧ ∀ a,s.1=some a→σ.length≤a.block:=by
 rw[Wj,RQ]
 have eS:AL (k+3) (AY i) b σ=_:=PH (k+1) h b
 simp only[eS,Option.bind_some,Am]
 unfold DO
 by_cases hc:Ij m b=1
 rotate_left
 ·rw[if_neg hc,bne_iff_ne.2 hc]
  exact ⟨[],(none,0,0),by simp only[cond_true,List.append_nil],BU.nil _ _ _,by intro a ha; cases ha⟩
 rw[if_pos hc,hc]
 obtain ⟨n,rfl,hn,hst⟩:=cf hc
 obtain ⟨τ2,o2,e2,s2,n2⟩:=ar k hk h hn 8 0 (k+3) [] (none,0,0) (BU.nil _ _ _) (by intro a ha; cases ha) (by omega) (by omega)
 rw[List.append_nil] at e2
 have e2':Em (k+3) (k+3) (AY i) (n:Int) (none,0,0) 0 σ=_:=e2
 refine ⟨τ2,o2, ?_,by rw[Int.toNat_natCast,LU]; exact s2,n2⟩
 simp only[bne_self_eq_false,cond_false,e2',Option.bind_some,if_true,H5]
end Go.Proofs.YtlaplcglpnlieaaGreat
end
section
namespace Go.Proofs.YtlaplcglpnlieaaGreat
open Go Go.AX
noncomputable local instance qRW:Bb:=Az
local instance zl:Kn:=⟨true⟩
variable {σ:Aa} {m:HM} {t:RM} {i:RI}
def SY (om:List (EJ × EJ)):List Nat:=om.flatMap fun p=>hs p.1++hs p.2
theorem Xu (s:EJ):(hs s).Nodup:=by
 unfold hs
 cases s.1 <;> simp
theorem RI.Hf {j:Nat}:j ∈ i.l↔j=i.hb∨j ∈ hs i.bs∨j ∈ hs i.os∨j ∈ hs i.fs∨j ∈ SY i.om:=by
 unfold RI.l SY
 simp only[List.mem_cons,List.mem_append]
structure Sep (i:RI):Prop where
 hA:i.hb ∉ hs i.bs
 hB:i.hb ∉ hs i.os
 hC:i.hb ∉ hs i.fs
 hD:i.hb ∉ SY i.om
 AB:∀ a ∈ hs i.bs,a ∉ hs i.os
 AC:∀ a ∈ hs i.bs,a ∉ hs i.fs
 AD:∀ a ∈ hs i.bs,a ∉ SY i.om
 BC:∀ a ∈ hs i.os,a ∉ hs i.fs
 BD:∀ a ∈ hs i.os,a ∉ SY i.om
 CD:∀ a ∈ hs i.fs,a ∉ SY i.om
 D:(SY i.om).Nodup
theorem Sep.of (h:i.l.Nodup):Sep i:=by
 have h:(i.hb::(hs i.bs++(hs i.os++(hs i.fs++SY i.om)))).Nodup:=h
 obtain ⟨h1,h2⟩:=List.nodup_cons.1 h
 simp only[List.mem_append,not_or] at h1
 obtain ⟨_,h3,h4⟩:=List.nodup_append.1 h2
 obtain ⟨_,h5,h6⟩:=List.nodup_append.1 h3
 obtain ⟨_,h7,h8⟩:=List.nodup_append.1 h5
 exact ⟨h1.1,h1.2.1,h1.2.2.1,h1.2.2.2,fun a ha hb=>h4 a ha a (List.mem_append.2 (.inl hb)) rfl,fun a ha hb=>h4 a ha a (List.mem_append.2 (.inr (List.mem_append.2 (.inl hb)))) rfl,fun a ha hb=>h4 a ha a (List.mem_append.2 (.inr (List.mem_append.2 (.inr hb)))) rfl,
  fun a ha hb=>h6 a ha a (List.mem_append.2 (.inl hb)) rfl,fun a ha hb=>h6 a ha a (List.mem_append.2 (.inr hb)) rfl,fun a ha hb=>h8 a ha a hb rfl,h7⟩
theorem Sep.nd (h:Sep i):i.l.Nodup:=by
 show (i.hb::(hs i.bs++(hs i.os++(hs i.fs++SY i.om)))).Nodup
 refine List.nodup_cons.2 ⟨?_,List.nodup_append.2 ⟨Xu _,List.nodup_append.2 ⟨Xu _,List.nodup_append.2 ⟨Xu _,h.D, ?_⟩, ?_⟩, ?_⟩⟩
 ·simp only[List.mem_append,not_or]
  exact ⟨h.hA,h.hB,h.hC,h.hD⟩
 ·intro a ha b hb e
  subst e
  exact h.CD a ha hb
 ·intro a ha b hb e
  subst e
  rcases List.mem_append.1 hb with hb | hb
  ·exact h.BC a ha hb
  ·exact h.BD a ha hb
 ·intro a ha b hb e
  subst e
  rcases List.mem_append.1 hb with hb | hb
  ·exact h.AB a ha hb
  ·rcases List.mem_append.1 hb with hb | hb
   ·exact h.AC a ha hb
   ·exact h.AD a ha hb
theorem L0.sep (h:L0 σ i t):Sep i:=Sep.of h.nd
theorem OP {om:List (EJ × EJ)} {x b:Nat} (hx:x<om.length) (h:b ∈ hs om[x].1∨b ∈ hs om[x].2):b ∈ SY om:=
 List.mem_flatMap.2 ⟨_,List.getElem_mem hx,List.mem_append.2 h⟩
theorem ZU {s:EJ} {q:Nat} (e:s.1=some ⟨q,0,none⟩):q ∈ hs s:=H0.2 ⟨_,e,rfl⟩
theorem Rz {L:List Nat} {q b:Nat} {c:AJ} (hq:q ∉ L) (hb:b ∈ L):(σ.set q c)[b]?=σ[b]?:=
 List.getElem?_set_ne (fun e:q=b=>hq (by rw[e]; exact hb))
structure HT (i i':RI) (σ σ':Aa):Prop where
 len:σ.length≤σ'.length
 same:∀ j,j<σ.length→j ∉ i.l→σ'[j]?=σ[j]?
 new:∀ j,j ∈ i'.l→j ∈ i.l∨σ.length≤j
 hb:i'.hb=i.hb
theorem HT.refl (i:RI) (σ:Aa):HT i i σ σ:=⟨Nat.le_refl _,fun _ _ _=>rfl,fun _ h=>.inl h,rfl⟩
theorem HT.app (i:RI) (σ τ:Aa):HT i i σ (σ++τ):=⟨by simp,fun j hj _=>List.getElem?_append_left hj,fun _ h=>.inl h,rfl⟩
theorem HT.trans {a b c:Aa} {i i' i'':RI} (h:HT i i' a b) (g:HT i' i'' b c):HT i i'' a c:=by
 refine ⟨Nat.le_trans h.len g.len,fun j h1 h2=>?_,fun j hj=>?_,g.hb.trans h.hb⟩
 ·refine (g.same j (Nat.lt_of_lt_of_le h1 h.len) fun hm=>?_).trans (h.same j h1 h2)
  rcases h.new j hm with h3 | h3
  ·exact h2 h3
  ·omega
 ·rcases g.new j hj with h1 | h1
  ·exact h.new j h1
  ·exact .inr (Nat.le_trans h.len h1)
theorem HT.set {q:Nat} (σ:Aa) (c:AJ) (h:q ∈ i.l):HT i i σ (σ.set q c):=
 ⟨by simp,fun j hj hn=>List.getElem?_set_ne (fun e:q=j=>hn (by rw[← e]; exact h)),fun _ h=>.inl h,rfl⟩
def Is (mm:Option (Value × Aa)) (σ:Aa) (i:RI) (v:Value) (m':HM):Prop:=
 ∃ σ' i' t',mm=some (v,σ')∧L0 σ' i' t'∧UN m' t'∧Pt m'∧HT i i' σ σ'
theorem Is.same (h:RG σ i m t) (hP:Pt m) (τ:Aa) {v:Value} {mm:Option (Value × Aa)} (he:mm=some (v,σ++τ)):Is mm σ i v m:=
 ⟨σ++τ,i,t,he,h.at_.app τ,h.sim,hP,HT.app i σ τ⟩
theorem Is.TA (h:RG σ i m t) (hP:Pt m) {v:Value} {mm:Option (Value × Aa)} (he:mm=some (v,σ)):Is mm σ i v m:=
 ⟨σ,i,t,he,h.at_,h.sim,hP,HT.refl i σ⟩
theorem L0.pI {μ:Aa} {i:RI} {t:RM} (bl:BU Aq 2 μ i.bs t.bl.length (Cv t.bl)) (ob:BU Ac 8 μ i.os t.ob.length (Hm t.ob i.om)) (fw:gX μ i.fs t.fw) (ol:i.om.length=t.ob.length)
  (inn:∀ (x:Nat) (h:x<t.ob.length) (h':x<i.om.length),Ir μ i.om[x].1 t.ob[x].refs∧Ir μ i.om[x].2 t.ob[x].data) (sep:Sep i) (lt:∀ j ∈ i.l,j<μ.length):
  L0 (μ.set i.hb (.cells [.slice i.bs.1 i.bs.2.1 i.bs.2.2,.slice i.os.1 i.os.2.1 i.os.2.2,.slice i.fs.1 i.fs.2.1 i.fs.2.2,.int .i64 t.born] Cn true)) i t where
 hp:=List.getElem?_set_self (lt _ i.N1)
 bl:=bl.Cx fun a ha=>Rz (sep.hA) (H0.2 ⟨a,ha,rfl⟩)
 ob:=ob.Cx fun a ha=>Rz (sep.hB) (H0.2 ⟨a,ha,rfl⟩)
 fw:=fw.Cx fun a ha=>Rz (sep.hC) (H0.2 ⟨a,ha,rfl⟩)
 ol:=ol
 inn:=fun x h h'=>⟨(inn x h h').1.Cx fun b hb=>Rz (sep.hD) (OP h' (.inl hb)),(inn x h h').2.Cx fun b hb=>Rz (sep.hD) (OP h' (.inr hb))⟩
 nd:=sep.nd
 lt:=fun j hj=>by rw[List.length_set]; exact lt j hj
theorem L0.jA (h:L0 σ i t) {q:Nat} (e:i.bs.1=some ⟨q,0,none⟩) (l':List (Int × Int)) (hl:l'.length=t.bl.length):L0 (σ.set q (.cells (Cv l') Aq true)) i { t with bl:=l' }:=by
 have sep:=h.sep
 have hq:=ZU e
 have hlt:=h.lt q (RI.Hf.2 (.inr (.inl hq)))
 refine { hp:=?_,bl:=?_,ob:=?_,fw:=?_,ol:=h.ol,inn:=?_,nd:=h.nd,lt:=fun j hj=>by rw[List.length_set]; exact h.lt j hj }
 ·rw[List.getElem?_set_ne (fun e':q=i.hb=>sep.hA (by rw[← e']; exact hq))]; exact h.hp
 ·have:=h.bl.form
  rw[e] at this
  exact .inr ⟨q,by rw[this,hl],Nat.zero_le _,by rw[Dn]; omega,List.getElem?_set_self hlt⟩
 ·exact h.ob.Cx fun a ha=>Rz (sep.AB q hq) (H0.2 ⟨a,ha,rfl⟩)
 ·exact h.fw.Cx fun a ha=>Rz (sep.AC q hq) (H0.2 ⟨a,ha,rfl⟩)
 ·intro x h1 h2
  exact ⟨(h.inn x h1 h2).1.Cx fun b hb=>Rz (sep.AD q hq) (OP h2 (.inl hb)),(h.inn x h1 h2).2.Cx fun b hb=>Rz (sep.AD q hq) (OP h2 (.inr hb))⟩
theorem L0.wv (h:L0 σ i t) {b:Nat} (hb:b<t.bl.length) (x y:Int):∃ q,i.bs.1=some ⟨q,0,none⟩∧Ip σ q (b*2) [.int .i64 x,.int .i64 y]=some (σ.set q (.cells (Cv (t.bl.set b (x,y))) Aq true)) ∧
  L0 (σ.set q (.cells (Cv (t.bl.set b (x,y))) Aq true)) i { t with bl:=t.bl.set b (x,y) }∧HT i i σ (σ.set q (.cells (Cv (t.bl.set b (x,y))) Aq true)):=by
 obtain ⟨q,e,l0,l1,hc⟩:=Vy h.bl hb
 refine ⟨q,e, ?_,h.jA e _ (by simp),HT.set _ _ (RI.Hf.2 (.inr (.inl (ZU e))))⟩
 have:b*2+2≤(Cv t.bl).length:=by rw[Dn]; omega
 simp only[Ip,hc,List.length_cons,List.length_nil,Nat.zero_add,Nat.reduceAdd,this,if_true,Us _ _ _ _ hb]
theorem L0.xR (h:L0 σ i t) {b:Nat} (hb:b<t.bl.length) (y:Int):∃ q,i.bs.1=some ⟨q,0,none⟩∧AX.Gn σ q (b*2+1) (.int .i64 y)=some (σ.set q (.cells (Cv (t.bl.set b ((t.bl.getD b (0,0)).1,y))) Aq true)) ∧
  L0 (σ.set q (.cells (Cv (t.bl.set b ((t.bl.getD b (0,0)).1,y))) Aq true)) i { t with bl:=t.bl.set b ((t.bl.getD b (0,0)).1,y) }∧HT i i σ (σ.set q (.cells (Cv (t.bl.set b ((t.bl.getD b (0,0)).1,y))) Aq true)):=by
 obtain ⟨q,e,l0,l1,hc⟩:=Vy h.bl hb
 refine ⟨q,e, ?_,h.jA e _ (by simp),HT.set _ _ (RI.Hf.2 (.inr (.inl (ZU e))))⟩
 have:b*2+1<(Cv t.bl).length:=by rw[Dn]; omega
 simp only[AX.Gn,hc,this,if_true,iD _ _ _ hb]
theorem lh (l:List (Int × Int)) (b:Nat) (x:Int) (hb:b<l.length):(Cv l).set (b*2) (.int .i64 x)=Cv (l.set b (x,(l.getD b (0,0)).2)):=by
 rw[Us _ _ _ _ hb]
 have h1:=(Ur l b hb).2
 rw[Nat.mul_comm] at h1
 have hlen:=Dn l
 apply List.ext_getElem?
 intro p
 unfold AN
 by_cases hp:p=b*2
 ·subst hp
  rw[List.getElem?_set_self (by omega),List.append_assoc,List.getElem?_append_right (by simp; omega)]
  simp[List.length_take,Nat.min_eq_left (show b*2≤(Cv l).length by omega)]
 ·rw[List.getElem?_set_ne (Ne.symm hp),List.append_assoc]
  by_cases h2:p<b*2
  ·rw[List.getElem?_append_left (by simp; omega),List.getElem?_take_of_lt h2]
  ·rw[List.getElem?_append_right (by simp; omega),List.length_take,Nat.min_eq_left (show b*2≤(Cv l).length by omega)]
   by_cases h3:p=b*2+1
   ·subst h3
    rw[h1,show b*2+1-b*2=1 from by omega]
    rfl
   ·rw[List.getElem?_append_right (by simp; omega),List.getElem?_drop]
    congr 1
    simp only[List.length_cons,List.length_nil]
    omega
theorem L0.yp (h:L0 σ i t) {b:Nat} (hb:b<t.bl.length) (x:Int):∃ q,i.bs.1=some ⟨q,0,none⟩∧AX.Gn σ q (b*2) (.int .i64 x)=some (σ.set q (.cells (Cv (t.bl.set b (x,(t.bl.getD b (0,0)).2))) Aq true)) ∧
  L0 (σ.set q (.cells (Cv (t.bl.set b (x,(t.bl.getD b (0,0)).2))) Aq true)) i { t with bl:=t.bl.set b (x,(t.bl.getD b (0,0)).2) }∧HT i i σ (σ.set q (.cells (Cv (t.bl.set b (x,(t.bl.getD b (0,0)).2))) Aq true)):=by
 obtain ⟨q,e,l0,l1,hc⟩:=Vy h.bl hb
 refine ⟨q,e, ?_,h.jA e _ (by simp),HT.set _ _ (RI.Hf.2 (.inr (.inl (ZU e))))⟩
 have:b*2<(Cv t.bl).length:=by rw[Dn]; omega
 simp only[AX.Gn,hc,this,if_true,lh _ _ _ hb]
theorem Tw (l:List (Int × Int)) (b c:Nat) (e:Int × Int):(l.set b e).getD c (0,0)=if c=b∧b<l.length then e else l.getD c (0,0):=by
 rw[List.getD_eq_getElem?_getD,List.getElem?_set]
 by_cases h:b=c
 ·subst h
  by_cases h2:b<l.length
  ·simp[h2]
  ·simp[h2]
 ·rw[if_neg h,if_neg (fun hh=>h hh.1.symm),List.getD_eq_getElem?_getD]
theorem dE (b:Nat) (e:Int × Int):∀ (n x:Nat) (l:List (Int × Int)) (c:Nat),b+x+n≤l.length→(Yj l b e n x).getD c (0,0)=if b+x≤c∧c<b+x+n then e else l.getD c (0,0)
 | 0,x,l,c,h=>by rw[Yj,if_neg (by omega)]
 | n+1,x,l,c,h=>by
   rw[Yj,dE b e n (x+1) _ c (by rw[List.length_set]; omega),Tw]
   by_cases h1:b+(x+1)≤c∧c<b+(x+1)+n
   ·rw[if_pos h1,if_pos (show b+x≤c∧c<b+x+(n+1) by omega)]
   ·rw[if_neg h1]
    by_cases h2:c=b+x
    ·rw[if_pos ⟨h2,by omega⟩,if_pos (show b+x≤c∧c<b+x+(n+1) by omega)]
    ·rw[if_neg (show ¬ (c=b+x∧b+x<l.length) from fun hh=>h2 hh.1),if_neg (show ¬ (b+x≤c∧c<b+x+(n+1)) by omega)]
theorem gO (b:Nat) (y:Int):∀ (n:Nat) (l:List (Int × Int)) (c:Nat),b+n≤l.length→(cg l b y n).getD c (0,0)=if b≤c∧c<b+n then ((l.getD c (0,0)).1,y) else l.getD c (0,0)
 | 0,l,c,h=>by rw[cg,if_neg (by omega)]
 | n+1,l,c,h=>by
   rw[cg,gO b y n _ c (by rw[List.length_set]; omega),Tw]
   by_cases h2:c=b+n
   ·subst h2
    rw[if_neg (show ¬ (b≤b+n∧b+n<b+n) by omega),if_pos ⟨rfl,by omega⟩,if_pos (show b≤b+n∧b+n<b+(n+1) by omega)]
   ·rw[if_neg (show ¬ (c=b+n∧b+n<l.length) from fun hh=>h2 hh.1)]
    by_cases h1:b≤c∧c<b+n
    ·rw[if_pos h1,if_pos (show b≤c∧c<b+(n+1) by omega)]
    ·rw[if_neg h1,if_neg (show ¬ (b≤c∧c<b+(n+1)) by omega)]
def na (l:List (Int × Int)) (b:Nat) (y:Int):Nat→Nat→List (Int × Int)
 | 0,_=>l
 | n+1,x=>na (l.set (b+x) ((l.getD (b+x) (0,0)).1,y)) b y n (x+1)
theorem cZ (b:Nat) (y:Int):∀ (n x:Nat) (l:List (Int × Int)),(na l b y n x).length=l.length
 | 0,x,l=>rfl
 | n+1,x,l=>by rw[na,cZ b y n]; simp
theorem jD (b:Nat) (y:Int):∀ (n x:Nat) (l:List (Int × Int)) (c:Nat),b+x+n≤l.length→(na l b y n x).getD c (0,0)=if b+x≤c∧c<b+x+n then ((l.getD c (0,0)).1,y) else l.getD c (0,0)
 | 0,x,l,c,h=>by rw[na,if_neg (by omega)]
 | n+1,x,l,c,h=>by
   rw[na,jD b y n (x+1) _ c (by rw[List.length_set]; omega),Tw]
   by_cases h2:c=b+x
   ·subst h2
    rw[if_neg (show ¬ (b+(x+1)≤b+x∧b+x<b+(x+1)+n) by omega),if_pos ⟨rfl,by omega⟩,if_pos (show b+x≤b+x∧b+x<b+x+(n+1) by omega)]
   ·rw[if_neg (show ¬ (c=b+x∧b+x<l.length) from fun hh=>h2 hh.1)]
    by_cases h1:b+(x+1)≤c∧c<b+(x+1)+n
    ·rw[if_pos h1,if_pos (show b+x≤c∧c<b+x+(n+1) by omega)]
    ·rw[if_neg h1,if_neg (show ¬ (b+x≤c∧c<b+x+(n+1)) by omega)]
theorem lJ {l l':List (Int × Int)} (hl:l.length=l'.length) (h:∀ c,l.getD c (0,0)=l'.getD c (0,0)):l=l':=by
 apply List.ext_getElem hl
 intro n h1 h2
 have:=h n
 rw[List.getD_eq_getElem?_getD,List.getD_eq_getElem?_getD,List.getElem?_eq_getElem h1,List.getElem?_eq_getElem h2] at this
 exact this
theorem uk {l:List (Int × Int)} {b n:Nat} (h:b+n≤l.length):Yj l b (0,0) n 0=gq l b n:=
 lJ (by rw[Hp,Q2]) fun c=>by rw[dE b _ n 0 l c (by omega),UB b n l c,Nat.add_zero]
theorem tL {l:List (Int × Int)} {b n:Nat} {y:Int} (h:b+n≤l.length):na l b y n 0=cg l b y n:=
 lJ (by rw[cZ,Q5]) fun c=>by rw[jD b y n 0 l c (by omega),gO b y n l c h,Nat.add_zero]
def FZ (m:HM):Prop:=∀ c,(m.bls.getD c (0,0)).1=0→(m.bls.getD c (0,0)).2=0
theorem aF {b:Nat}:∀ (f n:Nat),(m.bls.getD b (0,0)).1=1∨(m.bls.getD b (0,0)).1=2→1≤n→(∀ c,1≤c→c<n→(m.bls.getD (b+c) (0,0)).1=3) → ∀ c,c<Ii m b f n→(m.bls.getD (b+c) (0,0)).1≠0
 | 0,n,h,hn,h3,c,hc=>by
   rw[Ii] at hc
   by_cases c0:c=0
   ·subst c0; rw[Nat.add_zero]; omega
   ·rw[h3 c (by omega) hc]; decide
 | f+1,n,h,hn,h3,c,hc=>by
   rw[Ii] at hc
   split at hc
   ·rename_i hcond
    exact aF f (n+1) h (by omega) (fun c' h1 h2=>by
     by_cases e:c'=n
     ·rw[e]; exact hcond.2.2
     ·exact h3 c' h1 (by omega)) c hc
   ·by_cases c0:c=0
    ·subst c0; rw[Nat.add_zero]; omega
    ·rw[h3 c (by omega) hc]; decide
theorem Yd {l:List (Int × Int)} {b:Nat} (hz:∀ c,(l.getD c (0,0)).1=0→(l.getD c (0,0)).2=0):∀ (n x:Nat),Jv l b n x=none ↔ ∀ c,x≤c→c<x+n→(l.getD (b+c) (0,0)).1=0
 | 0,x=>by simp[Jv]; intro c h1 h2; omega
 | n+1,x=>by
   rw[Jv]
   by_cases h:(l.getD (b+x) (0,0)).1=0
   ·rw[if_pos ⟨h,hz _ h⟩,Yd hz n (x+1)]
    constructor
    ·intro g c h1 h2
     by_cases e:c=x
     ·rw[e]; exact h
     ·exact g c (by omega) (by omega)
    ·intro g c h1 h2
     exact g c (by omega) (by omega)
   ·rw[if_neg (fun hh=>h hh.1)]
    constructor
    ·intro g; cases g
    ·intro g; exact absurd (g x (Nat.le_refl _) (by omega)) h
end Go.Proofs.YtlaplcglpnlieaaGreat
end
section
namespace Go.Proofs.YtlaplcglpnlieaaGreat
open Go Go.AX
noncomputable local instance qRX:Bb:=Az
local instance zm:Kn:=⟨true⟩
variable {σ:Aa} {m:HM} {t:RM} {i:RI}
theorem XX (k:Nat) (h:RG σ i m t) (b:Int):C9 (k+1) (AY i) b σ=some (.bool (decide (1≤b∧b<(m.bls.length:Int))),σ):=by
 rw[Wq,RY]
 by_cases h0:1≤b
 ·rw[decide_eq_true (show b≥1 from h0)]
  simp only[cond_true,Option.bind_some,Nat.zero_add,Nat.add_zero,h.at_.SX,h.bn,h0,true_and]
 ·rw[decide_eq_false (show ¬ b≥1 from h0),decide_eq_false (fun hh=>h0 hh.1)]
  simp only[cond_false,Option.bind_some]
theorem bV (k:Nat) (y:Int) (σ:Aa):GV (k+1) y σ=some (.bool (X3 y),σ):=by
 rw[bA,YB]
 unfold X3
 by_cases h0:0≤y <;> simp[h0]
theorem jt (k:Nat) (h:RG σ i m t) (hP:Pt m) (hz:FZ m) (b s:Int):Is (Df (k+2) (AY i) b s σ) σ i (.int .i64 (Cw m b 1 1 s 0 0).1) (Cw m b 1 1 s 0 0).2:=by
 have hnt:=h.nt
 rw[Wf,RK]
 simp only[FD k h,XX k h b,bV k s,Option.bind_some,Ao,Bool.not_true,cond_false]
 unfold Cw
 by_cases g0:1≤b∧b<(m.bls.length:Int)
 rotate_left
 ·rw[if_neg (fun hh=>g0 ⟨hh.1,hh.2.1⟩),decide_eq_false g0]
  exact Is.TA h hP (by simp only[Bool.not_false,cond_true,Option.bind_some])
 rw[decide_eq_true g0]
 simp only[Bool.not_true,cond_false,Option.bind_some]
 cases hs:X3 s with
 | false=>
   rw[if_neg (fun hh=>by have:=hh.2.2.2.2; cases this)]
   exact Is.TA h hP (by simp only[Bool.not_false,cond_true])
 | true=>
   rw[if_pos ⟨g0.1,g0.2,by omega,by omega,rfl⟩]
   obtain ⟨n,rfl⟩:∃ n:Nat,b=(n:Int):=⟨b.toNat,by omega⟩
   have hn:n<m.bls.length:=by omega
   obtain ⟨q,e,l0,l1,hc⟩:=ay h hn
   have qx:(0≤(n:Int)∧(n:Int)<((m.bls.length:Nat):Int))=True:=eq_true (by omega)
   simp only[Bool.not_true,cond_false,Nat.zero_add,Nat.add_zero,h.at_.SX,h.bn,Option.bind_some,qx,if_true,e,Int.toNat_natCast,l0,show (1:Int).toNat=1 from rfl]
   have hu:Jv m.bls n 1 0=none↔(m.bls.getD n (0,0)).1=0:=by
    rw[Yd hz]
    constructor
    ·intro g; exact g 0 (Nat.le_refl _) (by omega)
    ·intro g c h1 h2
     rw[show c=0 from by omega]; exact g
   by_cases g1:(m.bls.getD n (0,0)).1=0
   ·rw[if_pos (hu.2 g1)]
    simp only[g1,bne_self_eq_false,cond_false]
    obtain ⟨q2,e2,e3,h3,k3⟩:=h.at_.wv (b:=n) (by rw[h.bn]; exact hn) 1 s
    have:q2=q:=by rw[e] at e2; cases e2; rfl
    subst this
    refine ⟨_,i,_,by simp only[e3,Option.bind_some],h3, ?_, ?_,k3⟩
    ·rw[h.sim.bl]
     have:(Yj m.bls n (0,0) 1 0).set n (1,s)=m.bls.set n (1,s):=by
      show (m.bls.set (n+0) (0,0)).set n (1,s)=_
      rw[Nat.add_zero,List.set_set]
     rw[this]
     exact h.sim.blocks _ (by simp)
    ·exact hP.blocks _ (by rw[List.length_set,Hp])
   ·rw[if_neg (fun hh=>g1 (hu.1 hh))]
    simp only[bne_iff_ne.2 g1,cond_true]
    exact Is.TA h hP rfl
theorem YJ (k:Nat) (h:RG σ i m t) (hz:FZ m) {b c:Nat} (hbc:b+c≤m.bls.length):∀ (n x f:Nat),x+n=c→n<f→C7 k f (AY i) (b:Int) (c:Int) ((b+x:Nat):Int) σ=some (match Jv m.bls b n x with | none=>(.exit 0,[],σ) | some _=>(.ret,[.int .i64 8],σ))
 | 0,x,0,hx,hf=>by omega
 | 0,x,f+1,hx,hf=>by
   have hnt:=h.nt
   rw[Kj,HW]
   have w:Ae ((b:Int)+(c:Int))=((b+c:Nat):Int):=Ad (by unfold AV; omega)
   simp only[w,decide_eq_false (show ¬ ((b+x:Nat):Int)<((b+c:Nat):Int) by omega),cond_false,Jv]
 | n+1,x,0,hx,hf=>by omega
 | n+1,x,f+1,hx,hf=>by
   have hnt:=h.nt
   rw[Kj,HW,Jv]
   have w:Ae ((b:Int)+(c:Int))=((b+c:Nat):Int):=Ad (by unfold AV; omega)
   have w1:Ae (((b+x:Nat):Int)+1)=((b+(x+1):Nat):Int):=Ad (by unfold AV; omega)
   obtain ⟨q,e,l0,l1,hc⟩:=ay h (b:=b+x) (by omega)
   have qx:(0≤((b+x:Nat):Int)∧((b+x:Nat):Int)<((m.bls.length:Nat):Int))=True:=eq_true (by omega)
   simp only[w,decide_eq_true (show ((b+x:Nat):Int)<((b+c:Nat):Int) by omega),cond_true,Nat.zero_add,Nat.add_zero,h.at_.SX,h.bn,Option.bind_some,qx,if_true,e,Int.toNat_natCast,l0]
   by_cases g:(m.bls.getD (b+x) (0,0)).1=0
   ·rw[if_pos ⟨g,hz _ g⟩]
    simp only[g,bne_self_eq_false,cond_false,w1]
    exact YJ k h hz hbc n (x+1) f (by omega) (by omega)
   ·rw[if_neg (fun hh=>g hh.1)]
    simp only[bne_iff_ne.2 g,cond_true]
theorem YK (k:Nat) {b c:Nat} (s:Int):∀ (n x f:Nat) (σ:Aa) (t:RM),L0 σ i t→t.bl.length≤64→b+c≤t.bl.length→x+n=c→n<f →
  ∃ σ',C8 k f (AY i) (b:Int) (c:Int) s ((b+x:Nat):Int) σ=some (.exit 2,[],σ')∧L0 σ' i { t with bl:=Yj t.bl b (3,s) n x }∧HT i i σ σ'
 | 0,x,0,σ,t,h,hl,hb,hx,hf=>by omega
 | 0,x,f+1,σ,t,h,hl,hb,hx,hf=>by
   rw[Kk,HX]
   have w:Ae ((b:Int)+(c:Int))=((b+c:Nat):Int):=Ad (by unfold AV; omega)
   exact ⟨σ,by simp only[w,decide_eq_false (show ¬ ((b+x:Nat):Int)<((b+c:Nat):Int) by omega),cond_false],h,HT.refl _ _⟩
 | n+1,x,0,σ,t,h,hl,hb,hx,hf=>by omega
 | n+1,x,f+1,σ,t,h,hl,hb,hx,hf=>by
   have w:Ae ((b:Int)+(c:Int))=((b+c:Nat):Int):=Ad (by unfold AV; omega)
   have w1:Ae (((b+x:Nat):Int)+1)=((b+(x+1):Nat):Int):=Ad (by unfold AV; omega)
   obtain ⟨q,e,e3,h3,k3⟩:=h.wv (b:=b+x) (by omega) 3 s
   obtain ⟨σ',e4,h4,k4⟩:=YK k s n (x+1) f _ _ h3 (by show (t.bl.set _ _).length≤64; rw[List.length_set]; exact hl) (by show _≤(t.bl.set _ _).length; rw[List.length_set]; exact hb) (by omega) (by omega)
   refine ⟨σ', ?_,h4,k3.trans k4⟩
   rw[Kk,HX]
   have qx:(0≤((b+x:Nat):Int)∧((b+x:Nat):Int)<((t.bl.length:Nat):Int))=True:=eq_true (by omega)
   simp only[w,decide_eq_true (show ((b+x:Nat):Int)<((b+c:Nat):Int) by omega),cond_true,Nat.zero_add,Nat.add_zero,h.SX,Option.bind_some,qx,if_true,e,Int.toNat_natCast,e3,w1]
   exact e4
theorem gk (k:Nat) (hk:100≤k) (h:RG σ i m t) (hP:Pt m) (hz:FZ m) (b c s:Int) (hb:AV b) (hc:AV c):Is (Ez (k+2) (AY i) b c s σ) σ i (.int .i64 (Cw m b c 2 s 3 s).1) (Cw m b c 2 s 3 s).2:=by
 have hnt:=h.nt
 have hbn:=h.bn
 rw[Sp,NL]
 simp only[FD k h,XX k h b,bV k s,Option.bind_some,Ao,Bool.not_true,cond_false]
 unfold Cw
 by_cases g0:1≤b∧b<(m.bls.length:Int)
 rotate_left
 ·rw[if_neg (fun hh=>g0 ⟨hh.1,hh.2.1⟩),decide_eq_false g0]
  exact Is.TA h hP (by simp only[Bool.not_false,cond_true,Option.bind_some])
 obtain ⟨n,rfl⟩:∃ n:Nat,b=(n:Int):=⟨b.toNat,by omega⟩
 have hn:n<m.bls.length:=by omega
 have wd:Ae (((m.bls.length:Nat):Int)-(n:Int))=((m.bls.length-n:Nat):Int):=by rw[Ad (by unfold AV; omega)]; omega
 rw[decide_eq_true g0]
 simp only[Bool.not_true,cond_false,Option.bind_some]
 by_cases g1:c<1
 ·rw[if_neg (fun hh=>by have:=hh.2.2.1; omega)]
  exact Is.TA h hP (by simp only[decide_eq_true g1,cond_true,Option.bind_some])
 simp only[decide_eq_false g1,cond_false,Option.bind_some,Nat.zero_add,Nat.add_zero,h.at_.SX,h.bn,wd]
 by_cases g2:c>((m.bls.length-n:Nat):Int)
 ·rw[if_neg (fun hh=>by have:=hh.2.2.2.1; omega)]
  exact Is.TA h hP (by simp only[decide_eq_true g2,cond_true,Option.bind_some])
 simp only[decide_eq_false g2,cond_false,Option.bind_some]
 cases hs:X3 s with
 | false=>
   rw[if_neg (fun hh=>by have:=hh.2.2.2.2; cases this)]
   exact Is.TA h hP (by simp only[Bool.not_false,cond_true])
 | true=>
   rw[if_pos ⟨g0.1,g0.2,by omega,by omega,rfl⟩]
   obtain ⟨w,rfl⟩:∃ w:Nat,c=(w:Int):=⟨c.toNat,by omega⟩
   have hw:n+w≤m.bls.length:=by omega
   have e0:C7 (k+1) (k+1) (AY i) (n:Int) (w:Int) (n:Int) σ=_:=YJ (k+1) h hz hw w 0 (k+1) (by omega) (by omega)
   simp only[Bool.not_true,cond_false,e0,Option.bind_some,Int.toNat_natCast]
   cases g3:Jv m.bls n w 0 with
   | none=>
     simp only[if_true]
     obtain ⟨σ1,e1,h1,k1⟩:=YK (i:=i) (k+1) (b:=n) (c:=w) s w 0 (k+1) σ t h.at_ (by rw[hbn]; exact hnt) (by rw[hbn]; exact hw) (by omega) (by omega)
     have e1':C8 (k+1) (k+1) (AY i) (n:Int) (w:Int) s (n:Int) σ=_:=e1
     have hcl:(Yj t.bl n (3,s) w 0).length=m.bls.length:=by rw[Hp,hbn]
     obtain ⟨q,e2,e3,h3,k3⟩:=h1.yp (b:=n) (by show n<(Yj t.bl n (3,s) w 0).length; omega) 2
     have hg:((Yj t.bl n (3,s) w 0).getD n (0,0)).2=s:=by
      rw[dE n (3,s) w 0 t.bl n (by omega),if_pos (by omega)]
     have e3':AX.Gn σ1 q (n*2) (.int .i64 2)=some (σ1.set q (.cells (Cv ((Yj t.bl n (3,s) w 0).set n (2,((Yj t.bl n (3,s) w 0).getD n (0,0)).2))) Aq true)):=e3
     have h3':L0 (σ1.set q (.cells (Cv ((Yj t.bl n (3,s) w 0).set n (2,((Yj t.bl n (3,s) w 0).getD n (0,0)).2))) Aq true)) i { t with bl:=(Yj t.bl n (3,s) w 0).set n (2,((Yj t.bl n (3,s) w 0).getD n (0,0)).2) }:=h3
     have ld:Cr σ1 i.hb 0=some (i.bs.1,(Yj t.bl n (3,s) w 0).length,(Yj t.bl n (3,s) w 0).length):=h1.SX
     rw[hg] at e3' h3'
     have qx:(0≤(n:Int)∧(n:Int)<((m.bls.length:Nat):Int))=True:=eq_true (by omega)
     refine ⟨σ1.set q (.cells (Cv ((Yj t.bl n (3,s) w 0).set n (2,s))) Aq true),i,{ t with bl:=(Yj m.bls n (3,s) w 0).set n (2,s) }, ?_, ?_, ?_, ?_⟩
     ·simp only[if_true,e1',Option.bind_some,ld,hcl,qx,if_true,e2,Int.toNat_natCast,Nat.zero_add,e3']
     ·rw[← h.sim.bl]; exact h3'
     ·exact h.sim.blocks _ (by rw[List.length_set,Hp])
     ·exact ⟨hP.blocks _ (by rw[List.length_set,Hp]),k1.trans (HT.set _ _ (RI.Hf.2 (.inr (.inl (ZU e2)))))⟩
   | some x0=>
     simp only[reduceCtorEq,if_false,if_true,DQ]
     exact Is.TA h hP rfl
theorem XB (k:Nat) {b c:Nat}:∀ (n x f:Nat) (σ:Aa) (t:RM),L0 σ i t→t.bl.length≤64→b+c≤t.bl.length→x+n=c→n<f →
  ∃ σ',Dz k f (AY i) (b:Int) (c:Int) ((b+x:Nat):Int) σ=some (.exit 0,[],σ')∧L0 σ' i { t with bl:=Yj t.bl b (0,0) n x }∧HT i i σ σ'
 | 0,x,0,σ,t,h,hl,hb,hx,hf=>by omega
 | 0,x,f+1,σ,t,h,hl,hb,hx,hf=>by
   rw[LO,JH]
   have w:Ae ((b:Int)+(c:Int))=((b+c:Nat):Int):=Ad (by unfold AV; omega)
   exact ⟨σ,by simp only[w,decide_eq_false (show ¬ ((b+x:Nat):Int)<((b+c:Nat):Int) by omega),cond_false],h,HT.refl _ _⟩
 | n+1,x,0,σ,t,h,hl,hb,hx,hf=>by omega
 | n+1,x,f+1,σ,t,h,hl,hb,hx,hf=>by
   have w:Ae ((b:Int)+(c:Int))=((b+c:Nat):Int):=Ad (by unfold AV; omega)
   have w1:Ae (((b+x:Nat):Int)+1)=((b+(x+1):Nat):Int):=Ad (by unfold AV; omega)
   obtain ⟨q,e,e3,h3,k3⟩:=h.wv (b:=b+x) (by omega) 0 0
   obtain ⟨σ',e4,h4,k4⟩:=XB k n (x+1) f _ _ h3 (by show (t.bl.set _ _).length≤64; rw[List.length_set]; exact hl) (by show _≤(t.bl.set _ _).length; rw[List.length_set]; exact hb) (by omega) (by omega)
   refine ⟨σ', ?_,h4,k3.trans k4⟩
   rw[LO,JH]
   have qx:(0≤((b+x:Nat):Int)∧((b+x:Nat):Int)<((t.bl.length:Nat):Int))=True:=eq_true (by omega)
   simp only[w,decide_eq_true (show ((b+x:Nat):Int)<((b+c:Nat):Int) by omega),cond_true,Nat.zero_add,Nat.add_zero,h.SX,Option.bind_some,qx,if_true,e,Int.toNat_natCast,e3,w1]
   exact e4
theorem av (k:Nat) {b c:Nat} (y:Int):∀ (n x f:Nat) (σ:Aa) (t:RM),L0 σ i t→t.bl.length≤64→b+c≤t.bl.length→x+n=c→n<f →
  ∃ σ',Eo k f (AY i) (b:Int) y (c:Int) ((b+x:Nat):Int) σ=some (.exit 0,[],σ')∧L0 σ' i { t with bl:=na t.bl b y n x }∧HT i i σ σ'
 | 0,x,0,σ,t,h,hl,hb,hx,hf=>by omega
 | 0,x,f+1,σ,t,h,hl,hb,hx,hf=>by
   rw[MZ,Lc]
   have w:Ae ((b:Int)+(c:Int))=((b+c:Nat):Int):=Ad (by unfold AV; omega)
   exact ⟨σ,by simp only[w,decide_eq_false (show ¬ ((b+x:Nat):Int)<((b+c:Nat):Int) by omega),cond_false],h,HT.refl _ _⟩
 | n+1,x,0,σ,t,h,hl,hb,hx,hf=>by omega
 | n+1,x,f+1,σ,t,h,hl,hb,hx,hf=>by
   have w:Ae ((b:Int)+(c:Int))=((b+c:Nat):Int):=Ad (by unfold AV; omega)
   have w1:Ae (((b+x:Nat):Int)+1)=((b+(x+1):Nat):Int):=Ad (by unfold AV; omega)
   obtain ⟨q,e,e3,h3,k3⟩:=h.xR (b:=b+x) (by omega) y
   obtain ⟨σ',e4,h4,k4⟩:=av k y n (x+1) f _ _ h3 (by show (t.bl.set _ _).length≤64; rw[List.length_set]; exact hl) (by show _≤(t.bl.set _ _).length; rw[List.length_set]; exact hb) (by omega) (by omega)
   refine ⟨σ', ?_,h4,k3.trans k4⟩
   rw[MZ,Lc]
   have qx:(0≤((b+x:Nat):Int)∧((b+x:Nat):Int)<((t.bl.length:Nat):Int))=True:=eq_true (by omega)
   simp only[w,decide_eq_true (show ((b+x:Nat):Int)<((b+c:Nat):Int) by omega),cond_true,Nat.zero_add,Nat.add_zero,h.SX,Option.bind_some,qx,if_true,e,Int.toNat_natCast,e3,w1]
   exact e4
theorem gU {n:Nat} (h:(m.bls.getD n (0,0)).1=1∨(m.bls.getD n (0,0)).1=2) (hn:n<m.bls.length):TX m n=GS m n∧1≤GS m n:=by
 have key:∀ f x,1≤x→1≤Ii m n f x:=by
  intro f
  induction f with
  | zero=>intro x hx; exact hx
  | succ f ih=>
    intro x hx
    rw[Ii]
    split
    ·exact ih (x+1) (by omega)
    ·exact hx
 refine ⟨?_,key _ _ (Nat.le_refl _)⟩
 unfold TX
 by_cases h1:(m.bls.getD n (0,0)).1=1
 ·rw[if_pos h1]
  unfold GS
  cases hl:m.bls.length with
  | zero=>rfl
  | succ f=>rw[Ii,if_neg (fun hh=>by rw[h1] at hh; exact absurd hh.1 (by decide))]
 ·rw[if_neg h1,if_pos (by omega)]
theorem m6 (k:Nat) (hk:5000≤k) (h:RG σ i m t) (hP:Pt m) (b:Int):Is (E8 (k+3) (AY i) b σ) σ i (.int .i64 (Jb m b).1) (Jb m b).2:=by
 have hnt:=h.nt
 have hbn:=h.bn
 rw[Ux,Qg]
 simp only[FD (k+1) h,XX (k+1) h b,Option.bind_some,Ao,Bool.not_true,cond_false]
 unfold Jb Qx
 by_cases g0:1≤b∧b<(m.bls.length:Int)
 rotate_left
 ·have q:(¬(1≤b∧b<(m.bls.length:Int))∨true=false)=True:=eq_true (.inl g0)
  rw[decide_eq_false g0]
  simp only[q,if_true,show ((1:Int)=0)=False from by decide,if_false]
  exact Is.TA h hP (by simp only[Bool.not_false,cond_true])
 have q:(¬(1≤b∧b<(m.bls.length:Int))∨true=false)=False:=eq_false (by simp; omega)
 simp only[q,if_false]
 obtain ⟨n,rfl⟩:∃ n:Nat,b=(n:Int):=⟨b.toNat,by omega⟩
 have hn:n<m.bls.length:=by omega
 have eW:Co (k+2) (AY i) (n:Int) σ=_:=bR (k+1) (by omega) h hn
 rw[decide_eq_true g0]
 simp only[Bool.not_true,cond_false,eW,Option.bind_some,Am,Int.toNat_natCast]
 by_cases g1:(m.bls.getD n (0,0)).1≠1∧(m.bls.getD n (0,0)).1≠2
 ·have:TX m n=0:=by unfold TX; rw[if_neg g1.1,if_neg g1.2]
  rw[this]
  simp only[g1,ne_eq,not_false_eq_true,and_self,if_true,show ((5:Int)=0)=False from by decide,if_false]
  exact Is.TA h hP rfl
 obtain ⟨p1,p2⟩:=gU (n:=n) (by omega) hn
 have hsp:=SN hn
 rw[p1]
 have qn:(((GS m n:Nat):Int) == 0)=false:=beq_eq_false_iff_ne.2 (by omega)
 obtain ⟨τ,s,eO,iO⟩:=XA k hk h (n:Int)
 have eobj:UA m (n:Int)=Cb m (32*n) 32:=by unfold UA; rw[if_pos (by omega),Int.toNat_natCast]
 rw[eobj] at iO
 have sl:s.2.1=(Cb m (32*n) 32).length:=by
  rw[← show (CK (Cb m (32*n) 32)).length=(Cb m (32*n) 32).length from by simp[CK]]; exact iO.sl.len
 simp only[g1,qn,cond_false,eO,Option.bind_some,Gp,sl,if_false,if_true]
 by_cases g2:Cb m (32*n) 32=[]
 ·rw[if_pos g2,g2]
  obtain ⟨σ1,e1,h1,k1⟩:=XB (i:=i) (k+2) (b:=n) (c:=GS m n) (GS m n) 0 (k+2) (σ++τ) t (h.at_.app τ) (by omega) (by omega) (by omega) (by omega)
  have e1':Dz (k+2) (k+2) (AY i) (n:Int) ((GS m n:Nat):Int) (n:Int) (σ++τ)=_:=e1
  refine ⟨σ1,i,_,by simp only[List.length_nil,show decide ((((0:Nat):Int))>0)=false from rfl,cond_false,e1',Option.bind_some,if_true],h1, ?_, ?_,(HT.app i σ τ).trans k1⟩
  ·rw[uk (by omega),h.sim.bl]
   exact h.sim.blocks _ (Q2 _ _ _)
  ·exact hP.blocks _ (Q2 _ _ _)
 ·rw[if_neg g2]
  have:0<(Cb m (32*n) 32).length:=List.length_pos_iff.2 g2
  simp only[decide_eq_true (show (((Cb m (32*n) 32).length:Nat):Int)>0 by omega),cond_true]
  exact Is.same h hP τ rfl
theorem rk (k:Nat) (hk:5000≤k) (h:RG σ i m t) (hP:Pt m) (b y:Int):Is (Fo (k+3) (AY i) b y σ) σ i (.int .i64 (OR m b y).1) (OR m b y).2:=by
 have hnt:=h.nt
 have hbn:=h.bn
 rw[Wl,RS]
 simp only[FD (k+1) h,XX (k+1) h b,bV (k+1) y,Option.bind_some,Ao,Bool.not_true,cond_false]
 unfold OR Qx
 by_cases g0:1≤b∧b<(m.bls.length:Int)
 rotate_left
 ·have q:(¬(1≤b∧b<(m.bls.length:Int))∨X3 y=false)=True:=eq_true (.inl g0)
  rw[decide_eq_false g0]
  simp only[q,if_true,show ((1:Int)=0)=False from by decide,if_false]
  exact Is.TA h hP (by simp only[Bool.not_false,cond_true,Option.bind_some])
 rw[decide_eq_true g0]
 cases hs:X3 y with
 | false=>
   simp only[Bool.not_true,cond_false,Option.bind_some,or_true,if_true,show ((1:Int)=0)=False from by decide,if_false]
   exact Is.TA h hP (by simp only[Bool.not_false,cond_true])
 | true=>
 have q:(¬(1≤b∧b<(m.bls.length:Int))∨true=false)=False:=eq_false (by simp; omega)
 simp only[q,if_false]
 obtain ⟨n,rfl⟩:∃ n:Nat,b=(n:Int):=⟨b.toNat,by omega⟩
 have hn:n<m.bls.length:=by omega
 have eW:Co (k+2) (AY i) (n:Int) σ=_:=bR (k+1) (by omega) h hn
 simp only[Bool.not_true,cond_false,eW,Option.bind_some,Am,Int.toNat_natCast]
 by_cases g1:(m.bls.getD n (0,0)).1≠1∧(m.bls.getD n (0,0)).1≠2
 ·have:TX m n=0:=by unfold TX; rw[if_neg g1.1,if_neg g1.2]
  rw[this]
  simp only[g1,ne_eq,not_false_eq_true,and_self,if_true,show ((5:Int)=0)=False from by decide,if_false]
  exact Is.TA h hP rfl
 obtain ⟨p1,p2⟩:=gU (n:=n) (by omega) hn
 have hsp:=SN hn
 rw[p1]
 have qn:(((GS m n:Nat):Int) == 0)=false:=beq_eq_false_iff_ne.2 (by omega)
 obtain ⟨σ1,e1,h1,k1⟩:=av (i:=i) (k+2) (b:=n) (c:=GS m n) y (GS m n) 0 (k+2) σ t h.at_ (by omega) (by omega) (by omega) (by omega)
 have e1':Eo (k+2) (k+2) (AY i) (n:Int) y ((GS m n:Nat):Int) (n:Int) σ=_:=e1
 simp only[g1,qn,cond_false,e1',Option.bind_some,if_false,if_true]
 refine ⟨σ1,i,_,rfl,h1, ?_, ?_,k1⟩
 ·rw[tL (by omega),h.sim.bl]
  exact h.sim.blocks _ (Q5 _ _ _ _)
 ·exact hP.blocks _ (Q5 _ _ _ _)
end Go.Proofs.YtlaplcglpnlieaaGreat
end
