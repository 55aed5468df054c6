/- The document's allocator: bump, over; gaps, choose.; The document's allocator: holes, lines, Alloc. -/
import Derived.Test.YtlaplcglpnlieaaGreatP23
set_option linter.unusedVariables false
set_option linter.unusedSimpArgs false
set_option linter.unusedSectionVars false
section
namespace Go.Proofs.YtlaplcglpnlieaaGreat
open Go Go.AX
noncomputable local instance zV:Bb:=Az
local instance yX:Kn:=⟨true⟩
variable {σ:Aa} {m:HM} {t:RM} {j:RI} {rb:Nat} {a:AS}
theorem gp (k:Nat) (hk:5000≤k) (h:Uc σ j rb m t a) (ho:a.ok) {r d c w:Int} (hv:valid r d c=true) (hw:words r d c=w) (hw2:¬ w>32) (hb:m.births<1000000):
  TE (DK (k+8) (Ct rb) r d c w σ) σ j rb (.tuple #[.int .i64 (Cj m a r d c (Eu m a false w)).1.1,.int .i64 (Cj m a r d c (Eu m a false w)).1.2]) (Cj m a r d c (Eu m a false w)).2.1 (Cj m a r d c (Eu m a false w)).2.2:=by
 have hc0:=ho.c0; have hl0:=ho.l0; have hoc:=ho.oc0; have hol:=ho.ol0
 have hnt:=h.g.nt; have hnb:=h.g.nb
 have hwp:=Oi hv
 rw[hw] at hwp
 have bx:∀ {μ:Aa} {q:Nat},μ[q]?=some (AJ.cells [Value.int .i64 r,.int .i64 d,.int .i64 c] Ag true)→Ak .i64 μ q 0=some r∧Ak .i64 μ q 1=some d∧Ak .i64 μ q 2=some c:=by
  intro μ q hm; simp[Ak,Gr,hm,Bu]
 obtain ⟨μ0,hμ0⟩:∃ μ0,σ++[AJ.cells [Value.int .i64 r,.int .i64 d,.int .i64 c] Ag true]=μ0:=⟨_,rfl⟩
 have h0:Uc μ0 j rb m t a:=hμ0 ▸ h.app _
 have K0:E7 j j rb σ μ0:=hμ0 ▸ E7.app j σ _
 have S0:μ0[σ.length]?=some (AJ.cells [Value.int .i64 r,.int .i64 d,.int .i64 c] Ag true):=by rw[← hμ0]; simp
 obtain ⟨b0,b1,b2⟩:=bx S0
 have ef:=dB (k+4) (by omega) h0.g h0.M.fz (c:=1) (by decide)
 rw[← Zj (by omega),show ((1:Nat):Int)=1 from rfl] at ef
 have ef':EE (k+7) (AY j) 1 μ0=_:=ef
 have wd:Ae (a.l-a.c)=a.l-a.c:=Ad (by unfold AV; omega)
 have fin:∀ (x e:Int) (bl:Nat) (m1:HM),0≤x∧x≤20000→m1=(if 0<bl then HE m bl a.s else m)→Eu m a false w=((x,true),m1,a.put false (x+w) e)→TE ((A8 (k+7) (Ct rb) x (bl:Int) r d c μ0).bind fun r18=>EL r18.1 fun n19 n20=>(bif n20 == (0:Int) then ((Gn r18.2 rb 3 (.int .i64 (Ae (x+w)))).bind fun s22=>(Gn s22 rb 4 (.int .i64 e)).bind fun s24=>some (.normal,[],s24)) else (some (.normal,[],r18.2)):Option Ax).bind fun r25=>if r25.1 = .normal then (some (.tuple #[.int .i64 n19,.int .i64 n20],r25.2.2)) else none) σ j rb (.tuple #[.int .i64 (Cj m a r d c (Eu m a false w)).1.1,.int .i64 (Cj m a r d c (Eu m a false w)).1.2]) (Cj m a r d c (Eu m a false w)).2.1 (Cj m a r d c (Eu m a false w)).2.2:=by
  intro x e bl m1 hx hm1 hpr
  rw[hpr,XV (m1:=m1) hv (by rw[hw]; exact hw2) rfl rfl]
  obtain ⟨μ1,j1,t1,e1,h1,K1⟩:=UC (k+1) (by omega) h0 (x:=x) (by omega) bl (r:=r) (d:=d) (c:=c) hb hm1
  dsimp only
  generalize kQ m1 a.s x r d c=pl at *
  have e1':A8 (k+7) (Ct rb) x (bl:Int) r d c μ0=_:=e1
  simp only[e1',Option.bind_some,Dj,Ad (show AV (x+w) by unfold AV; omega)]
  by_cases q:pl.1.2=0
  ·rw[if_pos q]
   have s1:=h1.al.Gn 3 (.int .i64 (x+w)) { a with c:=x+w } rfl (by decide)
   have h2:=h1.TU { a with c:=x+w }
   have s2:=h2.al.Gn 4 (.int .i64 e) (a.put false (x+w) e) rfl (by decide)
   have h3:=h2.TU (a.put false (x+w) e)
   simp only[show (pl.1.2 == 0)=true from by simpa using q,cond_true,s1,Option.bind_some,s2,if_true]
   exact ⟨_,j1,t1,rfl,h3,((K0.trans K1).trans (E7.set _ _ _)).trans (E7.set _ _ _)⟩
  ·rw[if_neg q]
   simp only[show (pl.1.2 == 0)=false from by simpa using q,cond_false,Option.bind_some,if_true]
   exact ⟨μ1,j1,t1,rfl,h1,K0.trans K1⟩
 rw[SS,O0]
 simp only[An,hμ0,Option.bind_some,Nat.zero_add,Nat.add_zero,Nat.reduceAdd,h0.al.l3,h0.al.l4,wd,h0.al.Z2,ef',Am]
 by_cases q:a.l-a.c≥w
 ·have hpr:Eu m a false w=((a.c,true),m,a.put false (a.c+w) a.l):=by
   unfold Eu; rw[if_pos (show a.li false-a.cu false≥w from q)]; rfl
  have:=fin a.c a.l 0 m (by omega) rfl hpr
  simp only[decide_eq_false (show ¬ a.l-a.c<w by omega),cond_false,Option.bind_some,if_true,aJ,b0,b1,b2]
  exact this
 ·simp only[decide_eq_true (show a.l-a.c<w by omega),cond_true]
  cases hf:Tv m with
  | none=>
    have hpr:Eu m a false w=((0,false),m,a):=by
     unfold Eu; rw[if_neg (show ¬ a.li false-a.cu false≥w from q),hf]
    have hX:Cj m a r d c (Eu m a false w)=((0,6),m,a):=by
     unfold Cj; rw[if_pos hv,hpr,if_neg (by dsimp only; decide)]
    rw[hX]
    simp only[beq_self_eq_true,cond_true,Option.bind_some,show (Br.ret=Br.normal)=False from by simp,if_false,if_true,Gi]
    exact ⟨μ0,j,t,rfl,h0,K0⟩
  | some b=>
    have hb1:=KB hf
    have hpr:Eu m a false w=((64*(b:Int),true),HE m b a.s,a.put false (64*(b:Int)+w) (64*(b:Int)+64)):=by
     unfold Eu; rw[if_neg (show ¬ a.li false-a.cu false≥w from q),hf]
    have:=fin (64*(b:Int)) (64*(b:Int)+64) b (HE m b a.s) (by omega) (by rw[if_pos (by omega)]) hpr
    have w1:Ae ((b:Int)*64)=64*(b:Int):=by rw[Ad (by unfold AV; omega)]; omega
    have w2:Ae ((b:Int)+1)=(b:Int)+1:=Ad (by unfold AV; omega)
    have w3:Ae (((b:Int)+1)*64)=64*(b:Int)+64:=by rw[Ad (by unfold AV; omega)]; omega
    simp only[show (((b:Nat):Int) == 0)=false from by rw[beq_eq_false_iff_ne]; omega,cond_false,w1,w2,w3,Option.bind_some,if_true,aJ,b0,b1,b2]
    exact this
theorem tD (k:Nat) (hk:5000≤k) (h:Uc σ j rb m t a) (ho:a.ok) {r d c w:Int} (hv:valid r d c=true) (hw:words r d c=w) (hw2:¬ w>32) (hb:m.births<1000000):
  TE (FY (k+8) (Ct rb) r d c w σ) σ j rb (.tuple #[.int .i64 (Cj m a r d c (Eu m a true w)).1.1,.int .i64 (Cj m a r d c (Eu m a true w)).1.2]) (Cj m a r d c (Eu m a true w)).2.1 (Cj m a r d c (Eu m a true w)).2.2:=by
 have hc0:=ho.c0; have hl0:=ho.l0; have hoc:=ho.oc0; have hol:=ho.ol0
 have hnt:=h.g.nt; have hnb:=h.g.nb
 have hwp:=Oi hv
 rw[hw] at hwp
 have bx:∀ {μ:Aa} {q:Nat},μ[q]?=some (AJ.cells [Value.int .i64 r,.int .i64 d,.int .i64 c] Ag true)→Ak .i64 μ q 0=some r∧Ak .i64 μ q 1=some d∧Ak .i64 μ q 2=some c:=by
  intro μ q hm; simp[Ak,Gr,hm,Bu]
 obtain ⟨μ0,hμ0⟩:∃ μ0,σ++[AJ.cells [Value.int .i64 r,.int .i64 d,.int .i64 c] Ag true]=μ0:=⟨_,rfl⟩
 have h0:Uc μ0 j rb m t a:=hμ0 ▸ h.app _
 have K0:E7 j j rb σ μ0:=hμ0 ▸ E7.app j σ _
 have S0:μ0[σ.length]?=some (AJ.cells [Value.int .i64 r,.int .i64 d,.int .i64 c] Ag true):=by rw[← hμ0]; simp
 obtain ⟨b0,b1,b2⟩:=bx S0
 have ef:=dB (k+4) (by omega) h0.g h0.M.fz (c:=1) (by decide)
 rw[← Zj (by omega),show ((1:Nat):Int)=1 from rfl] at ef
 have ef':EE (k+7) (AY j) 1 μ0=_:=ef
 have wd:Ae (a.ol-a.oc)=a.ol-a.oc:=Ad (by unfold AV; omega)
 have fin:∀ (x e:Int) (bl:Nat) (m1:HM),0≤x∧x≤20000→m1=(if 0<bl then HE m bl a.s else m)→Eu m a true w=((x,true),m1,a.put true (x+w) e)→TE ((A8 (k+7) (Ct rb) x (bl:Int) r d c μ0).bind fun r18=>EL r18.1 fun n19 n20=>(bif n20 == (0:Int) then ((Gn r18.2 rb 5 (.int .i64 (Ae (x+w)))).bind fun s22=>(Gn s22 rb 6 (.int .i64 e)).bind fun s24=>some (.normal,[],s24)) else (some (.normal,[],r18.2)):Option Ax).bind fun r25=>if r25.1 = .normal then (some (.tuple #[.int .i64 n19,.int .i64 n20],r25.2.2)) else none) σ j rb (.tuple #[.int .i64 (Cj m a r d c (Eu m a true w)).1.1,.int .i64 (Cj m a r d c (Eu m a true w)).1.2]) (Cj m a r d c (Eu m a true w)).2.1 (Cj m a r d c (Eu m a true w)).2.2:=by
  intro x e bl m1 hx hm1 hpr
  rw[hpr,XV (m1:=m1) hv (by rw[hw]; exact hw2) rfl rfl]
  obtain ⟨μ1,j1,t1,e1,h1,K1⟩:=UC (k+1) (by omega) h0 (x:=x) (by omega) bl (r:=r) (d:=d) (c:=c) hb hm1
  dsimp only
  generalize kQ m1 a.s x r d c=pl at *
  have e1':A8 (k+7) (Ct rb) x (bl:Int) r d c μ0=_:=e1
  simp only[e1',Option.bind_some,Dj,Ad (show AV (x+w) by unfold AV; omega)]
  by_cases q:pl.1.2=0
  ·rw[if_pos q]
   have s1:=h1.al.Gn 5 (.int .i64 (x+w)) { a with oc:=x+w } rfl (by decide)
   have h2:=h1.TU { a with oc:=x+w }
   have s2:=h2.al.Gn 6 (.int .i64 e) (a.put true (x+w) e) rfl (by decide)
   have h3:=h2.TU (a.put true (x+w) e)
   simp only[show (pl.1.2 == 0)=true from by simpa using q,cond_true,s1,Option.bind_some,s2,if_true]
   exact ⟨_,j1,t1,rfl,h3,((K0.trans K1).trans (E7.set _ _ _)).trans (E7.set _ _ _)⟩
  ·rw[if_neg q]
   simp only[show (pl.1.2 == 0)=false from by simpa using q,cond_false,Option.bind_some,if_true]
   exact ⟨μ1,j1,t1,rfl,h1,K0.trans K1⟩
 rw[SV,O2]
 simp only[An,hμ0,Option.bind_some,Nat.zero_add,Nat.add_zero,Nat.reduceAdd,h0.al.l5,h0.al.l6,wd,h0.al.Z2,ef',Am]
 by_cases q:a.ol-a.oc≥w
 ·have hpr:Eu m a true w=((a.oc,true),m,a.put true (a.oc+w) a.ol):=by
   unfold Eu; rw[if_pos (show a.li true-a.cu true≥w from q)]; rfl
  have:=fin a.oc a.ol 0 m (by omega) rfl hpr
  simp only[decide_eq_false (show ¬ a.ol-a.oc<w by omega),cond_false,Option.bind_some,if_true,aJ,b0,b1,b2]
  exact this
 ·simp only[decide_eq_true (show a.ol-a.oc<w by omega),cond_true]
  cases hf:Tv m with
  | none=>
    have hpr:Eu m a true w=((0,false),m,a):=by
     unfold Eu; rw[if_neg (show ¬ a.li true-a.cu true≥w from q),hf]
    have hX:Cj m a r d c (Eu m a true w)=((0,6),m,a):=by
     unfold Cj; rw[if_pos hv,hpr,if_neg (by dsimp only; decide)]
    rw[hX]
    simp only[beq_self_eq_true,cond_true,Option.bind_some,show (Br.ret=Br.normal)=False from by simp,if_false,if_true,Gi]
    exact ⟨μ0,j,t,rfl,h0,K0⟩
  | some b=>
    have hb1:=KB hf
    have hpr:Eu m a true w=((64*(b:Int),true),HE m b a.s,a.put true (64*(b:Int)+w) (64*(b:Int)+64)):=by
     unfold Eu; rw[if_neg (show ¬ a.li true-a.cu true≥w from q),hf]
    have:=fin (64*(b:Int)) (64*(b:Int)+64) b (HE m b a.s) (by omega) (by rw[if_pos (by omega)]) hpr
    have w1:Ae ((b:Int)*64)=64*(b:Int):=by rw[Ad (by unfold AV; omega)]; omega
    have w2:Ae ((b:Int)+1)=(b:Int)+1:=Ad (by unfold AV; omega)
    have w3:Ae (((b:Int)+1)*64)=64*(b:Int)+64:=by rw[Ad (by unfold AV; omega)]; omega
    simp only[show (((b:Nat):Int) == 0)=false from by rw[beq_eq_false_iff_ne]; omega,cond_false,w1,w2,w3,Option.bind_some,if_true,aJ,b0,b1,b2]
    exact this
theorem XC (k:Nat) (hk:5000≤k) (h:Uc σ j rb m t a):∀ (n x f:Nat) (τ:Aa) (o:EJ),x+n=m.bls.length→BU Aj 2 (σ++τ) o (Fv m (B1 m a.s x)).length (Bh (Fv m (B1 m a.s x)))→(∀ y,o.1=some y→σ.length≤y.block)→n<f →
  ∃ τ' o',DD (k+4) f (Ct rb) o (x:Int) (σ++τ)=some (.exit 0,[.slice o'.1 o'.2.1 o'.2.2],σ++τ')∧BU Aj 2 (σ++τ') o' (Fv m (B1 m a.s m.bls.length)).length (Bh (Fv m (B1 m a.s m.bls.length)))
 | n,x,0,τ,o,hx,hs,hb,hf=>by omega
 | 0,x,f+1,τ,o,hx,hs,hb,hf=>by
   obtain rfl:x=m.bls.length:=by omega
   have h1:=h.app τ
   have eb:Ay (k+4) (AY j) (σ++τ)=_:=Jr (k+2) h1.g
   rw[KN,Iy]
   exact ⟨τ,o,by simp only[Option.bind_some,Nat.add_zero,h1.al.Z2,eb,Am,decide_eq_false (Int.lt_irrefl _),cond_false],hs⟩
 | n+1,x,f+1,τ,o,hx,hs,hb,hf=>by
   have hnt:=h.g.nt
   have h1:=h.app τ
   have hxl:x<m.bls.length:=by omega
   have eb:Ay (k+4) (AY j) (σ++τ)=_:=Jr (k+2) h1.g
   have e1:AL (k+4) (AY j) (x:Int) (σ++τ)=_:=PH (k+2) h1.g (x:Int)
   have e2:B3 (k+4) (AY j) (x:Int) (σ++τ)=_:=XW (k+2) h1.g (x:Int)
   have es:Ij m (x:Int)=(m.bls.getD x (0,0)).1:=by unfold Ij; rw[if_pos (by omega),Int.toNat_natCast]
   have ep:VF m (x:Int)=(m.bls.getD x (0,0)).2:=by unfold VF; rw[if_pos (by omega),Int.toNat_natCast]
   have w1:Ae ((x:Int)+1)=((x+1:Nat):Int):=Ad (by unfold AV; omega)
   rw[KN,Iy]
   simp only[Option.bind_some,Nat.add_zero,Nat.zero_add,h1.al.Z2,eb,Am,decide_eq_true (show (x:Int)<((m.bls.length:Nat):Int) by omega),cond_true,e1,e2,es,ep,h1.al.l1,w1]
   rw[px]
   by_cases q:(m.bls.getD x (0,0)).1=1∧(m.bls.getD x (0,0)).2=a.s
   ·obtain ⟨τ1,s1,e3,g1,lo1⟩:=mq k hk h1.g (x:Int)
    have hlen:=PD m (x:Int)
    have hol:(Fv m (B1 m a.s x)).length≤64*33:=by
     have hb2:=LF m a.s x
     have aux:∀ L:List Nat,(L.flatMap fun b:Nat=>H8 m (b:Int)).length≤L.length*33:=by
      intro L
      induction L with
      | nil=>simp
      | cons b L ih=>
        have:=PD m (b:Int)
        rw[List.flatMap_cons,List.length_append,List.length_cons]; omega
     have:=aux (B1 m a.s x)
     unfold Fv; omega
    have hnext:Fv m (B1 m a.s (x+1))=Fv m (B1 m a.s x)++H8 m (x:Int):=by
     rw[O8,if_pos q]; simp[Fv]
    obtain ⟨o1,τ2,e4,g2,lo2⟩:∃ o1 τ2,Be P Aj (o.1,o.2.1,o.2.2) (s1.1,s1.2.1,s1.2.2) (σ++τ++τ1)=some (o1,σ++τ2)∧BU Aj 2 (σ++τ2) o1 (Fv m (B1 m a.s (x+1))).length (Bh (Fv m (B1 m a.s (x+1)))) ∧ ∀ y,o1.1=some y→σ.length≤y.block:=by
     have f0:=g1.first
     have l2:=g1.len
     rw[hnext]
     by_cases hz:H8 m (x:Int)=[]
     ·rw[hz] at f0 l2
      refine ⟨o,τ++τ1, ?_,by rw[hz,List.append_nil,← List.append_assoc]; exact hs.app _,hb⟩
      rw[show s1.2.1=0 from l2,← List.append_assoc]
      exact WO kF jU kM rfl rfl (by decide) (σ++τ++τ1) o _ _ s1.1 s1.2.2 (hs.app _) f0
     ·have hp:0<(H8 m (x:Int)).length:=List.length_pos_iff.2 hz
      obtain ⟨o1,μ3,e,g,hh⟩:=UW kF jU kM rfl rfl (by decide) (by decide) (by decide) (σ++τ++τ1) o _ _ s1.1 (H8 m (x:Int)).length s1.2.2 (Bh (H8 m (x:Int))) (by omega) hp (N7 _) (hs.app _) f0
      rw[List.append_assoc] at g
      obtain ⟨⟨τ2,rfl⟩,h2⟩:=g.behind hb
      rw[l2]
      exact ⟨o1,τ2,e,by rw[LY,List.length_append]; exact hh,h2⟩
    obtain ⟨τ3,o3,e5,g3⟩:=XC k hk h n (x+1) f τ2 o1 (by omega) g2 lo2 (by omega)
    refine ⟨τ3,o3, ?_,g3⟩
    simp only[decide_eq_true q,Option.bind_some,cond_true,h1.al.Z2,e3,Gp,e4,if_true,H5]
    exact e5
   ·obtain ⟨τ3,o3,e5,g3⟩:=XC k hk h n (x+1) f τ o (by omega) (by rw[O8,if_neg q,List.append_nil]; exact hs) hb (by omega)
    refine ⟨τ3,o3, ?_,g3⟩
    simp only[decide_eq_false q,Option.bind_some,cond_false,if_true,H5]
    exact e5
theorem tC (k:Nat) (hk:5000≤k) (h:Uc σ j rb m t a):∃ τ o,FX (k+5) (Ct rb) σ=some (.slice o.1 o.2.1 o.2.2,σ++τ)∧BU Aj 2 (σ++τ) o (Fv m (B1 m a.s m.bls.length)).length (Bh (Fv m (B1 m a.s m.bls.length))):=by
 have hnt:=h.g.nt; have hnb:=h.g.nb
 have hb1:B1 m a.s 1=[]:=by
  rw[O8]
  have hb0:=h.M.b0
  unfold B0 at hb0
  rw[if_neg (by omega)]; rfl
 obtain ⟨τ,o,e,g⟩:=XC k hk h (m.bls.length-1) 1 (k+4) [] (none,0,0) (by omega) (by rw[hb1]; exact BU.nil _ _ _) (fun y hy=>by cases hy) (by omega)
 rw[List.append_nil,show ((1:Nat):Int)=1 from rfl] at e
 refine ⟨τ,o, ?_,g⟩
 rw[SU,O1]
 simp only[e,Option.bind_some,if_true,H5]
theorem ZI (k:Nat) (h:Uc σ j rb m t a) {cc w:Nat} (hcc:a.c=(cc:Int)) (hc2:cc≤10000) (hw:1≤w∧w≤1000) {R:List (Nat × Nat)} (hR:R.length≤5000) (hRb:∀ g ∈ R,g.1+g.2≤10000) {s:EJ} (hs:BU Aj 2 σ s R.length (Bh R)):∀ (n x f:Nat),x+n=R.length→n<f →
  Dh k f (Ct rb) (w:Int) s.1 R.length s.2.2 (x:Int) σ=some (match ((R.drop x).filterMap (LH cc w)).head? with | some g=>(.ret,[.int .i64 (g.1:Int),.bool true],σ) | none=>(.exit 0,[],σ))
 | n,x,0,hx,hf=>by omega
 | 0,x,f+1,hx,hf=>by
   rw[JT,HC,List.drop_of_length_le (by omega)]
   simp only[decide_eq_false (show ¬ (x:Int)<((R.length:Nat):Int) by omega),cond_false]
   rfl
 | n+1,x,f+1,hx,hf=>by
   have hxl:x<R.length:=by omega
   obtain ⟨b,e0,l0,l1⟩:=SK hs hxl
   have eg:R.getD x (0,0)=R[x]:=by rw[List.getD_eq_getElem?_getD,List.getElem?_eq_getElem hxl]; rfl
   rw[eg] at l0 l1
   have hg:=hRb _ (List.getElem_mem hxl)
   have qx:(0≤(x:Int)∧(x:Int)<((R.length:Nat):Int))=True:=eq_true (by omega)
   have w1:Ae ((x:Int)+1)=((x+1:Nat):Int):=Ad (by unfold AV; omega)
   have w2:Ae (((R[x]).1:Int)+((R[x]).2:Int))=(((R[x]).1+(R[x]).2:Nat):Int):=Ad (by unfold AV; omega)
   have w3:(if a.c>((R[x]).1:Int) then a.c else ((R[x]).1:Int))=((max cc (R[x]).1:Nat):Int):=by rw[hcc]; split <;> omega
   have w4:Ae ((((R[x]).1+(R[x]).2:Nat):Int)-((max cc (R[x]).1:Nat):Int))=(((R[x]).1+(R[x]).2:Nat):Int)-((max cc (R[x]).1:Nat):Int):=Ad (by unfold AV; omega)
   have ih:=ZI k h hcc hc2 hw hR hRb hs n (x+1) f (by omega) (by omega)
   rw[e0] at ih
   have hdr:R.drop x=R[x]::R.drop (x+1):=List.drop_eq_getElem_cons hxl
   rw[JT,HC,hdr]
   simp only[decide_eq_true (show (x:Int)<((R.length:Nat):Int) by omega),cond_true,qx,if_true,e0,Option.bind_some,Int.toNat_natCast,Nat.zero_add,Nat.add_zero,l0,l1,h.al.l3,w1,w2,w3,w4,ih]
   by_cases q:w≤(R[x]).1+(R[x]).2-max cc (R[x]).1
   ·have hc:LH cc w R[x]=some (max cc (R[x]).1,(R[x]).1+(R[x]).2-max cc (R[x]).1):=by unfold LH; rw[if_pos q]
    rw[List.filterMap_cons_some hc]
    simp only[decide_eq_true (show (((R[x]).1+(R[x]).2:Nat):Int)-((max cc (R[x]).1:Nat):Int)≥(w:Int) by omega),cond_true,List.head?_cons]
   ·have hc:LH cc w R[x]=none:=by unfold LH; rw[if_neg q]
    rw[List.filterMap_cons_none hc]
    simp only[decide_eq_false (show ¬ (((R[x]).1+(R[x]).2:Nat):Int)-((max cc (R[x]).1:Nat):Int)≥(w:Int) by omega),cond_false]
def Kc (p1:Bool) (w:Nat) (acc:Option (Nat × Nat)) (g:Nat × Nat):Option (Nat × Nat):=
 if g.2<w then acc else match acc with
  | none=>some g
  | some b=>if p1=true∧g.2<b.2 then some g else acc
theorem Mh (k:Nat) (h:Uc σ j rb m t a) {w:Nat} {R:List (Nat × Nat)} (hR:R.length≤5000) {s:EJ} (hs:BU Aj 2 σ s R.length (Bh R)):∀ (n x f:Nat) (bi:Int) (acc:Option (Nat × Nat)),x+n=R.length→n<f→((bi = -1∧acc=none) ∨ ∃ b:Nat,bi=(b:Int) ∧ ∃ hb:b<R.length,acc=some R[b]) →
  ∃ bi':Int,Di k f (Ct rb) (w:Int) s.1 R.length s.2.2 bi (x:Int) σ=some (.exit 2,[.int .i64 bi'],σ)∧((bi' = -1∧(R.drop x).foldl (Kc (decide (a.p=1)) w) acc=none) ∨ ∃ b:Nat,bi'=(b:Int) ∧ ∃ hb:b<R.length,(R.drop x).foldl (Kc (decide (a.p=1)) w) acc=some R[b])
 | n,x,0,bi,acc,hx,hf,hi=>by omega
 | 0,x,f+1,bi,acc,hx,hf,hi=>by
   rw[JU,HD,List.drop_of_length_le (by omega)]
   exact ⟨bi,by simp only[decide_eq_false (show ¬ (x:Int)<((R.length:Nat):Int) by omega),cond_false],hi⟩
 | n+1,x,f+1,bi,acc,hx,hf,hi=>by
   have hxl:x<R.length:=by omega
   obtain ⟨b,e0,l0,l1⟩:=SK hs hxl
   have eg:∀ y (hy:y<R.length),R.getD y (0,0)=R[y]:=fun y hy=>by rw[List.getD_eq_getElem?_getD,List.getElem?_eq_getElem hy]; rfl
   rw[eg x hxl] at l0 l1
   have qx:(0≤(x:Int)∧(x:Int)<((R.length:Nat):Int))=True:=eq_true (by omega)
   have w1:Ae ((x:Int)+1)=((x+1:Nat):Int):=Ad (by unfold AV; omega)
   have hdr:R.drop x=R[x]::R.drop (x+1):=List.drop_eq_getElem_cons hxl
   rw[JU,HD,hdr,List.foldl_cons]
   simp only[decide_eq_true (show (x:Int)<((R.length:Nat):Int) by omega),cond_true,qx,if_true,e0,Option.bind_some,Int.toNat_natCast,Nat.zero_add,Nat.add_zero,l1,w1,h.al.l2]
   by_cases q:(R[x]).2<w
   ·obtain ⟨bi',e1,r1⟩:=Mh k h (w:=w) hR hs n (x+1) f bi acc (by omega) (by omega) hi
    rw[e0] at e1
    refine ⟨bi', ?_, ?_⟩
    ·simp only[decide_eq_true (show (((R[x]).2:Nat):Int)<(w:Int) by omega),cond_true,e1]
    ·unfold Kc; rw[if_pos q]; exact r1
   ·simp only[decide_eq_false (show ¬ (((R[x]).2:Nat):Int)<(w:Int) by omega),cond_false]
    rcases hi with ⟨rfl,rfl⟩ | ⟨b',rfl,hb',rfl⟩
    ·obtain ⟨bi',e1,r1⟩:=Mh k h (w:=w) hR hs n (x+1) f (x:Int) (some R[x]) (by omega) (by omega) (.inr ⟨x,rfl,hxl,rfl⟩)
     rw[e0] at e1
     refine ⟨bi', ?_, ?_⟩
     ·simp only[decide_eq_true (show (-1:Int)<0 by decide),cond_true,Option.bind_some,if_true,DQ,e1]
     ·rw[show Kc (decide (a.p=1)) w none R[x]=some R[x] from by unfold Kc; rw[if_neg q]]; exact r1
    ·obtain ⟨_,e0',_,l1'⟩:=SK hs hb'
     rw[e0] at e0'; cases e0'
     rw[eg b' hb'] at l1'
     have qb:(0≤(b':Int)∧(b':Int)<((R.length:Nat):Int))=True:=eq_true (by omega)
     simp only[decide_eq_false (show ¬ (b':Int)<0 by omega),cond_false,qb,if_true,l1',Option.bind_some,Int.toNat_natCast,Nat.zero_add]
     by_cases q2:a.p=1
     ·simp only[show (a.p == 1)=true from by simpa using q2,cond_true,Option.bind_some]
      by_cases q3:(R[x]).2<(R[b']).2
      ·obtain ⟨bi',e1,r1⟩:=Mh k h (w:=w) hR hs n (x+1) f (x:Int) (some R[x]) (by omega) (by omega) (.inr ⟨x,rfl,hxl,rfl⟩)
       rw[e0] at e1
       refine ⟨bi', ?_, ?_⟩
       ·simp only[decide_eq_true (show (((R[x]).2:Nat):Int)<(((R[b']).2:Nat):Int) by omega),cond_true,Option.bind_some,if_true,DQ,e1]
       ·rw[show Kc (decide (a.p=1)) w (some R[b']) R[x]=some R[x] from by unfold Kc; rw[if_neg q,decide_eq_true q2]; exact if_pos ⟨rfl,q3⟩]; exact r1
      ·obtain ⟨bi',e1,r1⟩:=Mh k h (w:=w) hR hs n (x+1) f (b':Int) (some R[b']) (by omega) (by omega) (.inr ⟨b',rfl,hb',rfl⟩)
       rw[e0] at e1
       refine ⟨bi', ?_, ?_⟩
       ·simp only[decide_eq_false (show ¬ (((R[x]).2:Nat):Int)<(((R[b']).2:Nat):Int) by omega),cond_false,Option.bind_some,if_true,DQ,e1]
       ·rw[show Kc (decide (a.p=1)) w (some R[b']) R[x]=some R[b'] from by unfold Kc; rw[if_neg q]; exact if_neg (fun hh=>q3 hh.2)]; exact r1
     ·simp only[show (a.p == 1)=false from by simpa using q2,cond_false,Option.bind_some]
      obtain ⟨bi',e1,r1⟩:=Mh k h (w:=w) hR hs n (x+1) f (b':Int) (some R[b']) (by omega) (by omega) (.inr ⟨b',rfl,hb',rfl⟩)
      rw[e0] at e1
      refine ⟨bi', ?_, ?_⟩
      ·simp only[cond_false,Option.bind_some,if_true,DQ,e1]
      ·rw[show Kc (decide (a.p=1)) w (some R[b']) R[x]=some R[b'] from by unfold Kc; rw[if_neg q,decide_eq_false q2]; exact if_neg (fun hh=>by cases hh.1)]; exact r1
theorem um (w:Nat) (hw:1≤w) (g:Nat × Nat):LH 0 w g=if g.2<w then none else some g:=by
 unfold LH
 obtain ⟨x,y⟩:=g
 by_cases q:y<w
 ·rw[if_pos q,if_neg (by dsimp only; omega)]
 ·rw[if_neg q,if_pos (by dsimp only; omega)]
  dsimp only
  congr 2 <;> omega
theorem Zi (w:Nat) (hw:1≤w):∀ (l:List (Nat × Nat)) (acc:Option (Nat × Nat)),l.foldl (Kc false w) acc=acc.or (l.filterMap (LH 0 w)).head?
 | [],acc=>by cases acc <;> rfl
 | g::l,acc=>by
   rw[List.foldl_cons,Zi w hw l]
   by_cases q:g.2<w
   ·rw[List.filterMap_cons_none (by rw[um w hw,if_pos q]),show Kc false w acc g=acc from by unfold Kc; rw[if_pos q]]
   ·rw[List.filterMap_cons_some (by rw[um w hw,if_neg q])]
    cases acc with
    | none=>rw[show Kc false w none g=some g from by unfold Kc; rw[if_neg q]]; rfl
    | some b=>rw[show Kc false w (some b) g=some b from by unfold Kc; rw[if_neg q]; exact if_neg (fun hh=>by cases hh.1)]; rfl
theorem iR (w:Nat) (hw:1≤w):∀ (l:List (Nat × Nat)) (acc:Option (Nat × Nat)),l.foldl (Kc true w) acc=(match acc with | none=>MR (l.filterMap (LH 0 w)) | some b=>match MR (l.filterMap (LH 0 w)) with | none=>some b | some h=>if h.2<b.2 then some h else some b)
 | [],acc=>by cases acc <;> rfl
 | g::l,acc=>by
   rw[List.foldl_cons,iR w hw l]
   by_cases q:g.2<w
   ·rw[List.filterMap_cons_none (by rw[um w hw,if_pos q]),show Kc true w acc g=acc from by unfold Kc; rw[if_pos q]]
   ·rw[List.filterMap_cons_some (by rw[um w hw,if_neg q])]
    cases acc with
    | none=>
      rw[show Kc true w none g=some g from by unfold Kc; rw[if_neg q]]
      rfl
    | some b=>
      rw[show Kc true w (some b) g=if g.2<b.2 then some g else some b from by unfold Kc; rw[if_neg q]; simp]
      simp only[MR]
      cases MR (l.filterMap (LH 0 w)) with
      | none=>by_cases q2:g.2<b.2 <;> simp[q2]
      | some h=>
        by_cases q2:g.2<b.2
        ·rw[if_pos q2]
         dsimp only
         by_cases q3:h.2<g.2
         ·rw[if_pos q3]; dsimp only; rw[if_pos (by omega)]
         ·rw[if_neg q3]; dsimp only; rw[if_pos q2]
        ·rw[if_neg q2]
         dsimp only
         by_cases q3:h.2<g.2
         ·rw[if_pos q3]
         ·rw[if_neg q3]; dsimp only; rw[if_neg q2,if_neg (by omega)]
def Yi (m:HM) (a:AS) (w:Nat):Option (Nat × Nat):=
 if a.p=2 then (CM m a.s a.c.toNat w++CM m a.s 0 w).head?
 else if a.p=1 then MR (CM m a.s 0 w) else (CM m a.s 0 w).head?
theorem qs (k:Nat) (hk:8000≤k) (h:Uc σ j rb m t a) (ho:a.ok) {w:Nat} (hw:1≤w∧w≤1000):∃ τ,Ee (k+6) (Ct rb) (w:Int) σ=some (.tuple #[.int .i64 (match Yi m a w with | some g=>(g.1:Int) | none=>0),.bool (Yi m a w).isSome],σ++τ):=by
 have hc0:=ho.c0
 have hnt:=h.g.nt
 obtain ⟨cc,hcc⟩:∃ cc:Nat,a.c=(cc:Int):=⟨a.c.toNat,by omega⟩
 obtain ⟨τ,s,e1,h1⟩:=tC k (by omega) h
 have hR2:=h.app τ
 have hRl:(Fv m (B1 m a.s m.bls.length)).length≤64*33:=by
  have hb2:=LF m a.s m.bls.length
  have aux:∀ L:List Nat,(L.flatMap fun b:Nat=>H8 m (b:Int)).length≤L.length*33:=by
   intro L
   induction L with
   | nil=>simp
   | cons b L ih=>
     have:=PD m (b:Int)
     rw[List.flatMap_cons,List.length_append,List.length_cons]; omega
  have:=aux (B1 m a.s m.bls.length)
  unfold Fv; omega
 have hRb:∀ g ∈ Fv m (B1 m a.s m.bls.length),g.1+g.2≤10000:=fun g hg=>by
  unfold Fv at hg
  obtain ⟨b,_,hb⟩:=List.mem_flatMap.1 hg
  exact ZP hnt _ g hb
 have hgf:∀ f,CM m a.s f w=(Fv m (B1 m a.s m.bls.length)).filterMap (LH f w):=fun f=>rfl
 unfold Yi
 simp only[hgf]
 generalize Fv m (B1 m a.s m.bls.length)=R at *
 have e2:=ZI (k+5) hR2 hcc (by omega) hw (by omega) hRb h1 R.length 0 (k+5) (by omega) (by omega)
 obtain ⟨bi,e3,r3⟩:=Mh (k+5) hR2 (w:=w) (by omega) h1 R.length 0 (k+5) (-1) none (by omega) (by omega) (.inl ⟨rfl,rfl⟩)
 rw[List.drop_zero] at e2 r3
 rw[show ((0:Nat):Int)=0 from rfl] at e2 e3
 refine ⟨τ, ?_⟩
 rw[Ru,MQ]
 simp only[e1,Option.bind_some,Gp,h1.len,Nat.zero_add,hR2.al.l2,e2,e3,show a.c.toNat=cc from by omega]
 have fin:∀ (G:Option (Nat × Nat)),R.foldl (Kc (decide (a.p=1)) w) none=G→(if Br.exit 2=Br.exit 2 then (UM [Value.int .i64 bi] fun n30=>bif decide (n30<(0:Int)) then (some (Value.tuple #[.int .i64 (0:Int),.bool false],σ++τ)) else (if 0≤n30∧n30<(R.length:Nat) then s.1.bind fun a31=>(Ak .i64 (σ++τ) a31.block (a31.off+n30.toNat*2+0)).bind fun n32=>some (.tuple #[.int .i64 n32,.bool true],σ++τ) else none)) else none)=some (.tuple #[.int .i64 (match G with | some g=>(g.1:Int) | none=>0),.bool G.isSome],σ++τ):=by
  intro G hG
  rw[if_pos rfl,DQ]
  rcases r3 with ⟨rfl,r3⟩ | ⟨b,rfl,hb,r3⟩
  ·rw[hG] at r3; subst r3
   rw[decide_eq_true (show (-1:Int)<0 by decide)]; rfl
  ·rw[hG] at r3; subst r3
   obtain ⟨q,e0,l0,_⟩:=SK h1 hb
   have eg:R.getD b (0,0)=R[b]:=by rw[List.getD_eq_getElem?_getD,List.getElem?_eq_getElem hb]; rfl
   rw[eg] at l0
   rw[decide_eq_false (show ¬ (b:Int)<0 by omega),cond_false,if_pos (by omega),e0]
   simp only[Option.bind_some,Int.toNat_natCast,Nat.zero_add,Nat.add_zero,l0,Option.isSome_some]
 have p0:=ho.p0
 by_cases q2:a.p=2
 ·have hf:R.foldl (Kc (decide (a.p=1)) w) none=(R.filterMap (LH 0 w)).head?:=by
   rw[decide_eq_false (by omega),Zi w hw.1]; rfl
  rw[if_pos q2]
  simp only[show (a.p == 2)=true from by simpa using q2,cond_true]
  cases hc:(R.filterMap (LH cc w)).head? with
  | some g=>
    have:(R.filterMap (LH cc w)++R.filterMap (LH 0 w)).head?=some g:=by rw[List.head?_append,hc]; rfl
    rw[this]
    simp only[show (Br.ret=Br.exit 0)=False from by simp,if_false,if_true,aK,Option.bind_some,show (Br.ret=Br.normal)=False from by simp,Option.isSome_some]
  | none=>
    have:(R.filterMap (LH cc w)++R.filterMap (LH 0 w)).head?=(R.filterMap (LH 0 w)).head?:=by rw[List.head?_append,hc]; rfl
    rw[this]
    simp only[if_true,Option.bind_some,e3]
    have:=fin _ hf
    simp only[if_true] at this
    exact this
 ·rw[if_neg q2]
  simp only[show (a.p == 2)=false from by simpa using q2,cond_false,Option.bind_some,if_true,e3]
  by_cases q1:a.p=1
  ·rw[if_pos q1]
   have:=fin (MR (R.filterMap (LH 0 w))) (by rw[decide_eq_true q1,iR w hw.1])
   simp only[if_true] at this
   exact this
  ·rw[if_neg q1]
   have:=fin (R.filterMap (LH 0 w)).head? (by rw[decide_eq_false q1,Zi w hw.1]; rfl)
   simp only[if_true] at this
   exact this
end Go.Proofs.YtlaplcglpnlieaaGreat
end
section
namespace Go.Proofs.YtlaplcglpnlieaaGreat
open Go Go.AX
noncomputable local instance zW:Bb:=Az
local instance yY:Kn:=⟨true⟩
variable {σ:Aa} {m:HM} {t:RM} {j:RI} {rb:Nat} {a:AS}
def XR (l:List (Nat × Nat)):List (Nat × Nat):=l.set (l.length-1) ((l.getD (l.length-1) (0,0)).1,(l.getD (l.length-1) (0,0)).2+1)
def Oo (ls:List Bool):Nat→List (Nat × Nat)
 | 0=>[]
 | x+1=>if ls.getD x false=true then Oo ls x else if 0<x∧ls.getD (x-1) false=false then XR (Oo ls x) else Oo ls x++[(x,1)]
theorem Xv (l:List (Nat × Nat)):(XR l).length=l.length:=by simp[XR]
theorem od (ls:List Bool):∀ x,0<x→ls.getD (x-1) false=false→Oo ls x≠[]
 | 0,h,_=>by omega
 | x+1,_,h=>by
   rw[show x+1-1=x from rfl] at h
   unfold Oo
   rw[if_neg (by rw[h]; decide)]
   split
   ·rename_i q
    have:=od ls x q.1 q.2
    intro e
    have e2:=Xv (Oo ls x)
    rw[e] at e2
    exact this (List.length_eq_zero_iff.1 e2.symm)
   ·simp
theorem jY (ls:List Bool):∀ x,(Oo ls x).length≤x
 | 0=>Nat.le_refl _
 | x+1=>by
   have:=jY ls x
   unfold Oo
   split
   ·omega
   ·split
    ·rw[Xv]; omega
    ·rw[List.length_append,List.length_singleton]; omega
theorem oa (ls:List Bool):∀ x,∀ g ∈ Oo ls x,g.1≤x∧g.2≤x
 | 0,g,h=>by simp[Oo] at h
 | x+1,g,h=>by
   have ih:=oa ls x
   unfold Oo at h
   split at h
   ·have:=ih g h; omega
   ·split at h
    ·rename_i q
     have hne:=od ls x q.1 q.2
     unfold XR at h
     rcases List.mem_or_eq_of_mem_set h with h | h
     ·have:=ih g h; omega
     ·have hp:(Oo ls x).length-1<(Oo ls x).length:=by have:=List.length_pos_iff.2 hne; omega
      have:=ih _ (List.getElem_mem hp)
      rw[List.getD_eq_getElem?_getD,List.getElem?_eq_getElem hp] at h
      rw[h]
      simp only[Option.getD_some]
      omega
    ·rcases List.mem_append.1 h with h | h
     ·have:=ih g h; omega
     ·simp at h; subst h; dsimp only; omega
theorem cV:∀ (R:List (Nat × Nat)) (x:Nat) (v:Nat),x<R.length→(Bh R).set (x*2+1) (.int .i64 (v:Int))=Bh (R.set x ((R.getD x (0,0)).1,v))
 | g::R,0,v,h=>by simp[Bh]
 | g::R,x+1,v,h=>by
   have ih:=cV R x v (by simpa using h)
   rw[show (x+1)*2+1=x*2+1+1+1 from by omega]
   simp only[Bh,List.set_cons_succ,ih,List.getD_cons_succ]
theorem Tz (k:Nat) {ls:List Bool} (hls:ls.length≤8) {s:EJ} (hs:BU Dv 1 σ s ls.length (FJ ls)):∀ (n x f:Nat) (τ:Aa) (o:EJ),x+n=ls.length→BU Aj 2 (σ++τ) o (Oo ls x).length (Bh (Oo ls x))→(∀ y,o.1=some y→σ.length≤y.block)→n<f →
  ∃ τ' o',HR k f s.1 ls.length s.2.2 o (x:Int) (σ++τ)=some (.exit 0,[.slice o'.1 o'.2.1 o'.2.2],σ++τ')∧BU Aj 2 (σ++τ') o' (Oo ls ls.length).length (Bh (Oo ls ls.length)) ∧ ∀ y,o'.1=some y→σ.length≤y.block
 | n,x,0,τ,o,hx,ho,hb,hf=>by omega
 | 0,x,f+1,τ,o,hx,ho,hb,hf=>by
   obtain rfl:x=ls.length:=by omega
   rw[Rb,P6]
   exact ⟨τ,o,by simp only[decide_eq_false (Int.lt_irrefl _),cond_false],ho,hb⟩
 | n+1,x,f+1,τ,o,hx,ho,hb,hf=>by
   have hxl:x<ls.length:=by omega
   have hs1:=hs.app τ
   obtain ⟨b,e0,l0⟩:=XO hs1 hxl
   have qx:(0≤(x:Int)∧(x:Int)<((ls.length:Nat):Int))=True:=eq_true (by omega)
   have w1:Ae ((x:Int)+1)=((x+1:Nat):Int):=Ad (by unfold AV; omega)
   have hl:=jY ls x
   rw[Rb,P6]
   simp only[decide_eq_true (show (x:Int)<((ls.length:Nat):Int) by omega),cond_true,qx,if_true,e0,Option.bind_some,Int.toNat_natCast,Nat.zero_add,Nat.mul_one,l0,w1]
   by_cases q:ls.getD x false=true
   ·rw[q]
    obtain ⟨τ1,o1,e1,g1⟩:=Tz k hls hs n (x+1) f τ o (by omega) (by rw[Oo,if_pos q]; exact ho) hb (by omega)
    rw[e0] at e1
    exact ⟨τ1,o1,by simp only[cond_true]; exact e1,g1⟩
   ·have q':ls.getD x false=false:=by simpa using q
    rw[q']
    simp only[cond_false]
    by_cases q2:0<x∧ls.getD (x-1) false=false
    ·have w2:Ae ((x:Int)-1)=((x-1:Nat):Int):=by rw[Ad (by unfold AV; omega)]; omega
     obtain ⟨_,e0',l0'⟩:=XO hs1 (show x-1<ls.length by omega)
     rw[e0] at e0'; cases e0'
     have hne:=od ls x q2.1 q2.2
     have hp:0<(Oo ls x).length:=List.length_pos_iff.2 hne
     have w3:Ae ((((Oo ls x).length:Nat):Int)-1)=(((Oo ls x).length-1:Nat):Int):=by rw[Ad (by unfold AV; omega)]; omega
     obtain ⟨ob,f0,f1,f2⟩:=SK ho (show (Oo ls x).length-1<(Oo ls x).length by omega)
     have hle:(((Oo ls x).getD ((Oo ls x).length-1) (0,0)).2:Int)≤1000:=by
      have hp':(Oo ls x).length-1<(Oo ls x).length:=by omega
      have:=oa ls x _ (List.getElem_mem hp')
      rw[List.getD_eq_getElem?_getD,List.getElem?_eq_getElem hp']
      simp only[Option.getD_some]; omega
     have w4:Ae ((((Oo ls x).getD ((Oo ls x).length-1) (0,0)).2:Int)+1)=((((Oo ls x).getD ((Oo ls x).length-1) (0,0)).2+1:Nat):Int):=Ad (by unfold AV; omega)
     have q3:(0≤(((Oo ls x).length-1:Nat):Int)∧(((Oo ls x).length-1:Nat):Int)<(((Oo ls x).length:Nat):Int))=True:=eq_true (by omega)
     have q4:(0≤((x-1:Nat):Int)∧((x-1:Nat):Int)<((ls.length:Nat):Int))=True:=eq_true (by omega)
     have hcell:(σ++τ)[ob]?=some (.cells (Bh (Oo ls x)) Aj true)∧o=(some ⟨ob,0,none⟩,(Oo ls x).length,(Oo ls x).length):=by
      rcases ho with ⟨z,_,_⟩ | ⟨b',rfl,_,_,hc⟩
      ·omega
      ·simp at f0; subst f0; exact ⟨hc,rfl⟩
     obtain ⟨hc,hoe⟩:=hcell
     have hst:Gn (σ++τ) ob (((Oo ls x).length-1)*2+1) (.int .i64 ((((Oo ls x).getD ((Oo ls x).length-1) (0,0)).2+1:Nat):Int))=some ((σ++τ).set ob (.cells (Bh (XR (Oo ls x))) Aj true)):=by
      simp only[Gn,hc]
      rw[if_pos (by rw[N7]; omega),cV _ _ _ (by omega)]
      rfl
     have gr:H6 (σ++τ) o ((σ++τ).set ob (.cells (Bh (XR (Oo ls x))) Aj true)) o:=⟨by simp,fun q hq hn=>List.getElem?_set_ne (fun e=>hn _ f0 e),.inl rfl⟩
     obtain ⟨⟨τ2,hτ2⟩,_⟩:=gr.behind hb
     have ho2:BU Aj 2 (σ++τ2) o (Oo ls (x+1)).length (Bh (Oo ls (x+1))):=by
      rw[Oo,if_neg q,if_pos q2,← hτ2]
      exact .inr ⟨ob,by rw[Xv]; exact hoe,Nat.zero_le _,N7 _,by rw[List.getElem?_set_self (Af hc)]⟩
     obtain ⟨τ1,o1,e1,g1⟩:=Tz k hls hs n (x+1) f τ2 o (by omega) ho2 hb (by omega)
     rw[e0] at e1
     refine ⟨τ1,o1, ?_,g1⟩
     simp only[decide_eq_true (show (x:Int)>0 by omega),cond_true,w2,q4,if_true,Option.bind_some,Int.toNat_natCast,l0',q2.2,Bool.not_false,ho.len,w3,q3,f0,Nat.zero_add,f2,w4,hst,hτ2,H5]
     rw[show o.2.2=(Oo ls x).length from by rw[hoe]]
     rw[hoe] at e1
     exact (H5 ((some ⟨ob,0,none⟩,(Oo ls x).length,(Oo ls x).length):EJ) _).trans e1
    ·have hst2:∃ τ2 o2,Be P Aj (o.1,o.2.1,o.2.2) (some ⟨(σ++τ).length,0,none⟩,1,1) (σ++τ++[AJ.cells [.int .i64 (x:Int),.int .i64 (1:Int)] Aj true])=some (o2,σ++τ2)∧BU Aj 2 (σ++τ2) o2 (Oo ls (x+1)).length (Bh (Oo ls (x+1))) ∧ ∀ y,o2.1=some y→σ.length≤y.block:=by
      obtain ⟨o2,τ2,e,g,hb2⟩:=Of kF jU kM rfl rfl (by decide) (by decide) (by decide) σ τ o (Oo ls x).length (Bh (Oo ls x)) 1 1 [.int .i64 (x:Int),.int .i64 (1:Int)] Aj (by omega) (by decide) rfl ho hb
      refine ⟨τ2,o2,e, ?_,hb2⟩
      rw[Oo,if_neg q,if_neg q2,LY,List.length_append]
      exact g
     obtain ⟨τ2,o2,e2,g2,hb2⟩:=hst2
     obtain ⟨τ1,o1,e1,g1⟩:=Tz k hls hs n (x+1) f τ2 o2 (by omega) g2 hb2 (by omega)
     rw[e0] at e1
     refine ⟨τ1,o1, ?_,g1⟩
     have hcond:(bif decide ((x:Int)>0) then if 0≤Ae ((x:Int)-1)∧Ae ((x:Int)-1)<((ls.length:Nat):Int) then (UP (σ++τ) b (Ae ((x:Int)-1)).toNat).bind fun b6=>some (!b6,σ++τ) else none else some (false,σ++τ))=some (false,σ++τ):=by
      by_cases q5:0<x
      ·have w2:Ae ((x:Int)-1)=((x-1:Nat):Int):=by rw[Ad (by unfold AV; omega)]; omega
       obtain ⟨_,e0',l0'⟩:=XO hs1 (show x-1<ls.length by omega)
       rw[e0] at e0'; cases e0'
       have:ls.getD (x-1) false=true:=by
        cases hh:ls.getD (x-1) false with
        | true=>rfl
        | false=>exact absurd ⟨q5,hh⟩ q2
       rw[decide_eq_true (show (x:Int)>0 by omega),cond_true,w2,if_pos (by omega),Int.toNat_natCast,l0',this]; rfl
      ·rw[decide_eq_false (show ¬ (x:Int)>0 by omega)]; rfl
     rw[hcond]
     simp only[Option.bind_some,cond_false,An,e2,if_true,H5]
     exact e1
theorem rh (k:Nat) (hk:5000≤k) (h:RG σ j m t) (b:Int):∃ τ o,KT (k+5) (AY j) b σ=some (.slice o.1 o.2.1 o.2.2,σ++τ)∧BU Aj 2 (σ++τ) o (Oo (DO m b) (DO m b).length).length (Bh (Oo (DO m b) (DO m b).length)) ∧ ∀ y,o.1=some y→σ.length≤y.block:=by
 obtain ⟨τ,s,e1,g1,lo1⟩:=jy k hk h b
 have hl:=SA m b
 obtain ⟨τ2,o,e2,g2,lo2⟩:=Tz (σ:=σ++τ) (k+4) hl g1 (DO m b).length 0 (k+4) [] (none,0,0) (by omega) (BU.nil _ _ _) (fun y hy=>by cases hy) (by omega)
 rw[List.append_nil,show ((0:Nat):Int)=0 from rfl] at e2
 refine ⟨τ++τ2,o, ?_,by rw[← List.append_assoc]; exact g2,fun y hy=>by have:=lo2 y hy; simp at this; omega⟩
 rw[bB,YC]
 simp only[e1,Option.bind_some,Gp,g1.len,e2,if_true,H5,List.append_assoc]
set_option maxRecDepth 10000 in
theorem sL:∀ (ls:List Bool),ls.length=8∨ls=[]→Oo ls ls.length=(YN ls 9 0).map fun g=>(g.1,g.2-g.1):=by
 rintro ls (h | rfl)
 ·match ls,h with
  | [b0,b1,b2,b3,b4,b5,b6,b7],_=>
    cases b0 <;> cases b1 <;> cases b2 <;> cases b3 <;> cases b4 <;> cases b5 <;> cases b6 <;> cases b7 <;> rfl
 ·rfl
end Go.Proofs.YtlaplcglpnlieaaGreat
end
