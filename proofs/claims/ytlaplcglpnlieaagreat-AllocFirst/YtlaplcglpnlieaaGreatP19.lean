/- The allocator's blocks and gaps.; The policies first, next, lines.; Holes; the policy lines.; A list of gaps in memory, swapped: insertion sort, swapR -/
import Derived.Test.YtlaplcglpnlieaaGreatP18
set_option linter.unusedVariables false
set_option linter.unusedSimpArgs false
set_option linter.unusedSectionVars false
section
namespace Go.Proofs.YtlaplcglpnlieaaGreat
open Go Go.AX
noncomputable local instance uf:AL:=As
local instance sV:Kn:=⟨true⟩
variable {σ:Aa} {i:C8} {m:HM} {ab:Nat} {a:AS}
def Bl (m:HM) (s:Int) (n:Nat):List Nat:=(List.range n).filter fun b=>decide ((m.bls.getD b (0,0)).1=1∧(m.bls.getD b (0,0)).2=s)
def U8 (l:List Nat):List Int:=l.map fun b:Nat=>(b:Int)
theorem Na (m:HM) (s:Int) (n:Nat):Bl m s (n+1)=Bl m s n++if (m.bls.getD n (0,0)).1=1∧(m.bls.getD n (0,0)).2=s then [n] else []:=by
 unfold Bl
 rw[List.range_succ,List.filter_append]
 congr 1
 by_cases q:(m.bls.getD n (0,0)).1=1∧(m.bls.getD n (0,0)).2=s
 ·rw[if_pos q,List.filter_cons,if_pos (decide_eq_true q)]; rfl
 ·rw[if_neg q,List.filter_cons,if_neg (by rw[decide_eq_false q]; decide)]; rfl
theorem IP (m:HM) (s:Int) (n:Nat):(Bl m s n).length≤n:=by
 have:=List.length_filter_le (fun b=>decide ((m.bls.getD b (0,0)).1=1∧(m.bls.getD b (0,0)).2=s)) (List.range n)
 rw[List.length_range] at this; exact this
theorem MD {m:HM} {s:Int} {n b:Nat}:b ∈ Bl m s n↔b<n∧(m.bls.getD b (0,0)).1=1∧(m.bls.getD b (0,0)).2=s:=by
 unfold Bl; simp[List.mem_filter]
theorem jU {α:Type} (x u y v:Int) (s:α):(bif x == u then some (y == v,s) else some (false,s))=some (decide (x=u∧y=v),s):=by
 by_cases q:x=u
 ·subst q
  by_cases q2:y=v
  ·subst q2; simp
  ·simp[q2]
 ·rw[show (x == u)=false from by simpa using q]; simp[q]
theorem SF (k:Nat) (h:Ah σ i m) (hA:Cf σ ab i a):∀ (n x f:Nat) (τ:Aa) (s:Ez),x+n=m.bls.length→DY σ.length (σ++τ) s (U8 (Bl m a.s x))→n<f →
  ∃ τ' s',Bt (k+4) f (DK ab) ((m.bls.length:Nat):Int) s (x:Int) (σ++τ)=some (.exit 0,[.slice s'.1 s'.2.1 s'.2.2],σ++τ')∧DY σ.length (σ++τ') s' (U8 (Bl m a.s m.bls.length))
 | n,x,0,τ,s,hx,hs,hf=>by omega
 | 0,x,f+1,τ,s,hx,hs,hf=>by
   obtain rfl:x=m.bls.length:=by omega
   rw[FL,EZ]
   exact ⟨τ,s,by simp only[decide_eq_false (Int.lt_irrefl _),cond_false],hs⟩
 | n+1,x,f+1,τ,s,hx,hs,hf=>by
   have hnt:=h.nt
   have hxl:x<m.bls.length:=by omega
   have g:=h.app τ
   have A:=hA.app τ
   have w1:Ac ((x:Int)+1)=((x+1:Nat):Int):=Ad (by unfold Bd; omega)
   have e1:CE (k+4) (DZ i) (x:Int) (σ++τ)=_:=fm (k+1) g hxl
   have e2:Bx (k+4) (DZ i) (x:Int) (σ++τ)=_:=ZK (k+1) g hxl
   rw[FL,EZ]
   simp only[decide_eq_true (show (x:Int)<((m.bls.length:Nat):Int) by omega),cond_true,Option.bind_some,Nat.add_zero,Nat.zero_add,A.X5,e1,e2,An,A.l1,w1]
   rw[jU]
   by_cases q:(m.bls.getD x (0,0)).1=1∧(m.bls.getD x (0,0)).2=a.s
   ·obtain ⟨s1,τ1,e3,i1⟩:=Wm σ τ s _ (x:Int) (by have:=IP m a.s x; simp[U8]; omega) hs
    have e3':Bs P B3 (s.1,s.2.1,s.2.2) (some ⟨(σ++τ).length,0,none⟩,1,1) (σ++τ++[.cells [.int .i64 (x:Int)] B3 true])=_:=e3
    obtain ⟨τ2,s2,e4,i2⟩:=SF k h hA n (x+1) f τ1 s1 (by omega) (by rw[Na,if_pos q]; simpa [U8] using i1) (by omega)
    refine ⟨τ2,s2, ?_,i2⟩
    simp only[decide_eq_true q,Option.bind_some,cond_true,Ap,e3',if_true,F2]
    exact e4
   ·obtain ⟨τ2,s2,e4,i2⟩:=SF k h hA n (x+1) f τ s (by omega) (by rw[Na,if_neg q,List.append_nil]; exact hs) (by omega)
    refine ⟨τ2,s2, ?_,i2⟩
    simp only[decide_eq_false q,Option.bind_some,cond_false,if_true,F2]
    exact e4
theorem cx (k:Nat) (hk:100≤k) (h:Ah σ i m) (hA:Cf σ ab i a):
  ∃ τ s,Bo (k+5) (DK ab) σ=some (.slice s.1 s.2.1 s.2.2,σ++τ)∧DY σ.length (σ++τ) s (U8 (Bl m a.s m.bls.length)):=by
 have hnt:=h.nt
 obtain ⟨τ,s,e,hs⟩:=SF k h hA m.bls.length 0 (k+4) [] (none,0,0) (by omega) (.inl ⟨rfl,rfl⟩) (by omega)
 rw[List.append_nil] at e
 refine ⟨τ,s, ?_,hs⟩
 have e':Bt (k+4) (k+4) (DK ab) ((m.bls.length:Nat):Int) (none,0,0) 0 σ=_:=e
 have e0:AA (k+4) (DZ i) σ=_:=J2 (k+2) h
 rw[JT,HS]
 simp only[Option.bind_some,Nat.add_zero,hA.X5,e0,An,e',if_true,F2]
def JL (f w:Nat) (g:Nat × Nat):Option (Nat × Nat):=if w≤g.1+g.2-max f g.1 then some (max f g.1,g.1+g.2-max f g.1) else none
theorem rS (μ:Aa) (T:TypeId) (p q x:Value):Gv (μ++[.cells [p,q] T true]) μ.length 0 x=some (μ++[.cells [x,q] T true]):=by
 simp[Gv]
theorem rT (μ:Aa) (T:TypeId) (p q x:Value):Gv (μ++[.cells [p,q] T true]) μ.length 1 x=some (μ++[.cells [p,x] T true]):=by
 simp[Gv]
theorem oI (g:Nat × Nat) (fr w:Nat) (hfr:fr≤10000) (hw:1≤w) (hg:g.1+g.2≤10000) (μ:Aa):
  ∃ st sz:Int,((bif decide (Ac ((fr:Int)-(g.1:Int))>0) then ((Gv (μ++[.cells [.int .i64 (g.1:Int),.int .i64 (g.2:Int)] Ae true]) μ.length 0 (.int .i64 (fr:Int))).bind fun s17=>(Gv s17 μ.length 1 (.int .i64 (Ac ((g.2:Int)-Ac ((fr:Int)-(g.1:Int)))))).bind fun s18=>some (.normal,[],s18)) else (some (.normal,[],μ++[.cells [.int .i64 (g.1:Int),.int .i64 (g.2:Int)] Ae true])):Option Aw) =
   some (.normal,[],μ++[.cells [.int .i64 st,.int .i64 sz] Ae true]))∧(match JL fr w g with | some g'=>sz≥(w:Int)∧st=(g'.1:Int)∧sz=(g'.2:Int) | none=>¬ sz≥(w:Int)):=by
 have w1:Ac ((fr:Int)-(g.1:Int))=(fr:Int)-(g.1:Int):=Ad (by unfold Bd; omega)
 have w2:Ac ((g.2:Int)-((fr:Int)-(g.1:Int)))=(g.2:Int)-((fr:Int)-(g.1:Int)):=Ad (by unfold Bd; omega)
 rw[w1]
 unfold JL
 by_cases q:(fr:Int)-(g.1:Int)>0
 ·refine ⟨(fr:Int),(g.2:Int)-((fr:Int)-(g.1:Int)), ?_, ?_⟩
  ·rw[decide_eq_true q]
   simp only[cond_true,w1,w2,Option.bind_some,rS,rT]
  ·rw[Nat.max_eq_left (by omega)]
   by_cases q2:w≤g.1+g.2-fr
   ·rw[if_pos q2]; dsimp only; omega
   ·rw[if_neg q2]; dsimp only; omega
 ·refine ⟨(g.1:Int),(g.2:Int), ?_, ?_⟩
  ·rw[decide_eq_false q]; rfl
  ·rw[Nat.max_eq_right (by omega)]
   by_cases q2:w≤g.1+g.2-g.1
   ·rw[if_pos q2]; dsimp only; omega
   ·rw[if_neg q2]; dsimp only; omega
def qO (s o:Ez):Prop:=∀ a,o.1=some a → ∀ b,s.1=some b→a.block≠b.block
theorem ER.sl {E:TypeId} {z n:Nat} {row:List Value} {σ':Aa} {s o o':Ez} (g:ER σ o σ' o') (h:BI E z σ s n row) (ha:qO s o):BI E z σ' s n row∧qO s o':=by
 refine ⟨h.Db fun b hb=>?_,fun x hx b hb=>?_⟩
 ·exact g.same b.block (h.lt b hb) fun x hx=>ha x hx b hb
 ·rcases g.new with rfl | hw
  ·exact ha x hx b hb
  ·have:=hw x hx; have:=h.lt b hb; omega
theorem Wl (k:Nat) {fr w:Nat} (hfr:fr≤10000) (hw:1≤w∧w≤1000) {R:List (Nat × Nat)} (hR:R.length≤100) (hRb:∀ g ∈ R,g.1+g.2≤10000) (s:Ez):∀ (n x f:Nat) (μ:Aa) (o:Ez) (R0:List (Nat × Nat)),BI Ae 2 μ s R.length (AJ R)→BI Ae 2 μ o R0.length (AJ R0)→qO s o→R0.length+n≤100000→x+n=R.length→n<f →
  ∃ μ' o',BA k f (fr:Int) (w:Int) s.1 R.length s.2.2 ((R.length:Nat):Int) o (x:Int) μ=some (.exit 2,[.slice o'.1 o'.2.1 o'.2.2],μ')∧ER μ o μ' o'∧BI Ae 2 μ' o' (R0++(R.drop x).filterMap (JL fr w)).length (AJ (R0++(R.drop x).filterMap (JL fr w)))
 | n,x,0,μ,o,R0,hs,ho,hd,hl,hx,hf=>by omega
 | 0,x,f+1,μ,o,R0,hs,ho,hd,hl,hx,hf=>by
   rw[Gz,F8]
   refine ⟨μ,o,by simp only[decide_eq_false (show ¬ (x:Int)<((R.length:Nat):Int) by omega),cond_false],ER.refl _ _, ?_⟩
   rw[List.drop_of_length_le (by omega)]
   simpa using ho
 | n+1,x,f+1,μ,o,R0,hs,ho,hd,hl,hx,hf=>by
   have hxl:x<R.length:=by omega
   obtain ⟨b,e0,l0,l1⟩:=R6 hs hxl
   have eg:R.getD x (0,0)=R[x]:=by rw[List.getD_eq_getElem?_getD,List.getElem?_eq_getElem hxl]; rfl
   rw[eg] at l0 l1
   have qx:(0≤(x:Int)∧(x:Int)<((R.length:Nat):Int))=True:=eq_true (by omega)
   have w1:Ac ((x:Int)+1)=((x+1:Nat):Int):=Ad (by unfold Bd; omega)
   obtain ⟨st,sz,eb,hc⟩:=oI R[x] fr w hfr hw.1 (hRb _ (List.getElem_mem _)) μ
   have ea:∀ (st sz:Int),Ai .i64 (μ++[.cells [.int .i64 st,.int .i64 sz] Ae true]) μ.length 0=some st∧Ai .i64 (μ++[.cells [.int .i64 st,.int .i64 sz] Ae true]) μ.length 1=some sz:=fun st sz=>kf μ Ae st sz
   have hdr:R.drop x=R[x]::R.drop (x+1):=List.drop_eq_getElem_cons hxl
   rw[Gz,F8]
   simp only[decide_eq_true (show (x:Int)<((R.length:Nat):Int) by omega),cond_true,qx,if_true,e0,Option.bind_some,Int.toNat_natCast,Nat.zero_add,Nat.add_zero,l0,l1,Ap,pk,(ea _ _).1,eb,(ea _ _).2,w1]
   have hg1:BI Ae 2 (μ++[.cells [.int .i64 st,.int .i64 sz] Ae true]) s R.length (AJ R):=hs.app _
   cases hcg:JL fr w R[x] with
   | none=>
     rw[hcg] at hc
     simp only[decide_eq_false (show ¬ sz≥(w:Int) from hc),cond_false,Option.bind_some,if_true,F2]
     obtain ⟨μ',o',e2,g2,h2⟩:=Wl k hfr hw hR hRb s n (x+1) f (μ++[.cells [.int .i64 st,.int .i64 sz] Ae true]) o R0 hg1 (ho.app _) hd (by omega) (by omega) (by omega)
     rw[e0] at e2
     refine ⟨μ',o',e2,(ER.app _ _ _).trans g2, ?_⟩
     rw[hdr,List.filterMap_cons_none hcg]; exact h2
   | some g=>
     rw[hcg] at hc
     obtain ⟨c1,rfl,rfl⟩:=hc
     simp only[decide_eq_true (show ((g.2:Nat):Int)≥(w:Int) from c1),cond_true,Option.bind_some]
     obtain ⟨o1,μ1,e1,g1,h1⟩:=aU bG ZT bP rfl rfl (by decide) (by decide) (by decide) (μ++[.cells [.int .i64 (g.1:Int),.int .i64 (g.2:Int)] Ae true]) o R0.length (AJ R0) 1 1 [.int .i64 (g.1:Int),.int .i64 (g.2:Int)] Ae (by omega) (by decide) rfl (ho.app _)
     have e1':Bs P Ae (o.1,o.2.1,o.2.2) (some ⟨(μ++[Bh.cells [.int .i64 (g.1:Int),.int .i64 (g.2:Int)] Ae true]).length,0,none⟩,1,1) (μ++[Bh.cells [.int .i64 (g.1:Int),.int .i64 (g.2:Int)] Ae true]++[Bh.cells [.int .i64 (g.1:Int),.int .i64 (g.2:Int)] Ae true])=_:=e1
     have gA:ER μ o μ1 o1:=(ER.app _ _ _).trans g1
     obtain ⟨s1,d1⟩:=gA.sl hs hd
     rw[show AJ R0++[Value.int .i64 (g.1:Int),.int .i64 (g.2:Int)]=AJ (R0++[g]) from by rw[Jr]; rfl,show R0.length+1=(R0++[g]).length from by simp] at h1
     obtain ⟨μ',o',e2,g2,h2⟩:=Wl k hfr hw hR hRb s n (x+1) f μ1 o1 (R0++[g]) s1 h1 d1 (by simp; omega) (by omega) (by omega)
     rw[e0] at e2
     refine ⟨μ',o', ?_,gA.trans g2, ?_⟩
     ·simp only[e1',Option.bind_some,if_true,F2]
      exact e2
     ·rw[hdr,List.filterMap_cons_some hcg]; simpa using h2
def Dg (m:HM) (l:List Nat):List (Nat × Nat):=l.flatMap fun b:Nat=>Fg m (b:Int)
def BQ (m:HM) (s:Int) (f w:Nat):List (Nat × Nat):=(Dg m (Bl m s m.bls.length)).filterMap (JL f w)
theorem kc {a e M:Nat} (hM:e≤M):∀ g ∈ IM a e,g.1+g.2≤M:=by
 intro g hg
 unfold IM at hg
 split at hg
 ·simp at hg; subst hg; dsimp only; omega
 ·simp at hg
theorem cJ (hnt:m.bls.length≤64) (b:Int):∀ g ∈ Fg m b,g.1+g.2≤4096:=by
 have aux:∀ (L:List Nat) (a:Nat),(∀ j ∈ L,2*j≤4096) → ∀ g ∈ (E9 m L a).1,g.1+g.2≤4096:=by
  intro L
  induction L with
  | nil=>intro a _ g hg; simp[E9] at hg
  | cons j L ih=>
    intro a hL g hg
    rw[E9] at hg
    rcases List.mem_append.1 hg with h | h
    ·exact kc (hL j (by simp)) g h
    ·exact ih _ (fun j hj=>hL j (by simp[hj])) g h
 intro g hg
 unfold Fg at hg
 split at hg
 ·rename_i hst
  obtain ⟨n,rfl,hn,_⟩:=Yw hst
  rw[Int.toNat_natCast] at hg
  unfold ax at hg
  rcases List.mem_append.1 hg with h | h
  ·exact aux _ _ (fun j hj=>by have:=Jo.1 hj; omega) g h
  ·exact kc (by omega) g h
 ·simp at hg
theorem WY (hnt:m.bls.length≤64) (b:Int):∀ g ∈ Fg m b,g.1+g.2≤10000:=fun g hg=>by have:=cJ hnt b g hg; omega
theorem da {L:List Nat} {x:Nat} (hx:x<L.length):(U8 L).getD x 0=((L[x]:Nat):Int):=by
 unfold U8
 rw[List.getD_eq_getElem?_getD,List.getElem?_map,List.getElem?_eq_getElem hx]; rfl
theorem ay (k:Nat) (hk:5000≤k) (hI:Inv m) (h0:B0 m) {fr w:Nat} (hfr:fr≤10000) (hw:1≤w∧w≤1000) {L:List Nat} (hL:∀ b ∈ L,b<m.bls.length) (hLl:L.length≤64) (s:Ez):∀ (n x f:Nat) (μ:Aa) (o:Ez) (R0:List (Nat × Nat)),Ah μ i m→Cf μ ab i a→BI B3 1 μ s (U8 L).length (Dd (U8 L))→BI Ae 2 μ o R0.length (AJ R0)→qO s o→qQ i o→(∀ x,o.1=some x→x.block≠ab)→R0.length+33*n≤50000→x+n=L.length→n<f →
  ∃ μ' o',B9 (k+7) f (DK ab) (fr:Int) (w:Int) s.1 L.length s.2.2 ((L.length:Nat):Int) o (x:Int) μ=some (.exit 0,[.slice o'.1 o'.2.1 o'.2.2],μ')∧ER μ o μ' o'∧BI Ae 2 μ' o' (R0++(Dg m (L.drop x)).filterMap (JL fr w)).length (AJ (R0++(Dg m (L.drop x)).filterMap (JL fr w)))
 | n,x,0,μ,o,R0,h,hA,hs,ho,hd,hof,hoa,hl,hx,hf=>by omega
 | 0,x,f+1,μ,o,R0,h,hA,hs,ho,hd,hof,hoa,hl,hx,hf=>by
   rw[Gy,F7]
   refine ⟨μ,o,by simp only[decide_eq_false (show ¬ (x:Int)<((L.length:Nat):Int) by omega),cond_false],ER.refl _ _, ?_⟩
   rw[List.drop_of_length_le (by omega)]
   simpa [Dg] using ho
 | n+1,x,f+1,μ,o,R0,h,hA,hs,ho,hd,hof,hoa,hl,hx,hf=>by
   have hxl:x<L.length:=by omega
   obtain ⟨b,e0,l0⟩:=m9 hs (show x<(U8 L).length by unfold U8; simpa using hxl)
   rw[da hxl] at l0
   have qx:(0≤(x:Int)∧(x:Int)<((L.length:Nat):Int))=True:=eq_true (by omega)
   have w1:Ac ((x:Int)+1)=((x+1:Nat):Int):=Ad (by unfold Bd; omega)
   obtain ⟨τ,s1,e1,h1,lo1⟩:=mj k hk h hI h0 ((L[x]:Nat):Int)
   have hlen:=M9 m ((L[x]:Nat):Int)
   have gA:ER μ o (μ++τ) o:=ER.app _ _ _
   obtain ⟨sl1,_⟩:=gA.sl hs hd
   have d1:qO s1 o:=fun x hx b hb=>by have:=ho.lt x hx; have:=lo1 b hb; omega
   obtain ⟨μ1,o1,e2,g1,h2⟩:=Wl (k+7) hfr hw (R:=Fg m ((L[x]:Nat):Int)) (by omega) (WY h.nt _) s1 (Fg m ((L[x]:Nat):Int)).length 0 (k+7) (μ++τ) o R0 h1 (ho.app _) d1 (by omega) (by omega) (by omega)
   rw[List.drop_zero] at h2
   have g2:ER μ o μ1 o1:=gA.trans g1
   obtain ⟨hh1,of1⟩:=g2.heap h hof
   obtain ⟨hA1,oa1⟩:=g2.other hA hoa
   obtain ⟨hs1,d2⟩:=g2.sl hs hd
   have hfl:((Fg m ((L[x]:Nat):Int)).filterMap (JL fr w)).length≤33:=Nat.le_trans (List.length_filterMap_le _ _) hlen
   obtain ⟨μ2,o2,e3,g3,h3⟩:=ay k hk hI h0 hfr hw hL hLl s n (x+1) f μ1 o1 _ hh1 hA1 hs1 h2 d2 of1 oa1 (by rw[List.length_append]; omega) (by omega) (by omega)
   rw[e0] at e3
   refine ⟨μ2,o2, ?_,g2.trans g3, ?_⟩
   ·have e2':BA (k+7) (k+7) (fr:Int) (w:Int) s1.1 (Fg m ((L[x]:Nat):Int)).length s1.2.2 (((Fg m ((L[x]:Nat):Int)).length:Nat):Int) (o.1,o.2.1,o.2.2) 0 (μ++τ)=_:=e2
    rw[Gy,F7]
    simp only[decide_eq_true (show (x:Int)<((L.length:Nat):Int) by omega),cond_true,qx,if_true,e0,Option.bind_some,Int.toNat_natCast,Nat.zero_add,Nat.add_zero,Nat.mul_one,l0,hA.X5,e1,Hu,h1.len,e2',F2,w1]
    exact e3
   ·rw[List.drop_eq_getElem_cons hxl]
    simp only[Dg,List.flatMap_cons,List.filterMap_append,List.append_assoc] at h3 ⊢
    exact h3
theorem Z1 (k:Nat) (hk:5000≤k) (h:Ah σ i m) (hA:Cf σ ab i a) (hI:Inv m) (h0:B0 m) {fr w:Nat} (hfr:fr≤10000) (hw:1≤w∧w≤1000):
  ∃ τ s,AM (k+8) (DK ab) (fr:Int) (w:Int) σ=some (.slice s.1 s.2.1 s.2.2,σ++τ)∧BI Ae 2 (σ++τ) s (BQ m a.s fr w).length (AJ (BQ m a.s fr w)) ∧ ∀ x,s.1=some x→σ.length≤x.block:=by
 have hnt:=h.nt
 obtain ⟨τ1,s1,e1,h1⟩:=cx (k+2) (by omega) h hA
 have hbl:=IP m a.s m.bls.length
 obtain ⟨μ,o,e2,g2,h2⟩:=ay (ab:=ab) (a:=a) k hk hI h0 hfr hw (L:=Bl m a.s m.bls.length) (fun b hb=>(MD.1 hb).1) (by omega) s1 (Bl m a.s m.bls.length).length 0 (k+7) (σ++τ1) (none,0,0) [] (h.app _) (hA.app _) h1.sl (BI.nil _ _ _) (fun x hx=>by cases hx) (fun x hx=>by cases hx) (fun x hx=>by cases hx) (by simp; omega) (by omega) (by omega)
 obtain ⟨⟨τ,rfl⟩,hb⟩:=(show ER (σ++τ1) (none,0,0) μ o from g2).behind (fun x hx=>by cases hx)
 refine ⟨τ,o, ?_,by simpa [BQ] using h2,hb⟩
 have e1':Bo (k+7) (DK ab) σ=_:=e1
 have e2':B9 (k+7) (k+7) (DK ab) (fr:Int) (w:Int) s1.1 (Bl m a.s m.bls.length).length s1.2.2 (((Bl m a.s m.bls.length).length:Nat):Int) (none,0,0) 0 (σ++τ1)=_:=e2
 have hlen:s1.2.1=(Bl m a.s m.bls.length).length:=by rw[h1.len]; simp[U8]
 rw[KV,IY]
 simp only[e1',Option.bind_some,Hu,hlen,e2',if_true,F2]
end Go.Proofs.YtlaplcglpnlieaaGreat
end
section
namespace Go.Proofs.YtlaplcglpnlieaaGreat
open Go Go.AX
noncomputable local instance ug:AL:=As
local instance sW:Kn:=⟨true⟩
variable {σ:Aa} {i:C8} {m:HM} {ab:Nat} {a:AS}
def Ca (m:HM) (a:AS) (l:List (Nat × Nat)):PR:=
 match l with
 | g::_=>(((g.1:Int),true),m,a)
 | []=>match Qh m with
   | some b=>((64*(b:Int),true),GA m b a.s,a)
   | none=>((0,false),m,a)
theorem bE (k:Nat) (hk:5000≤k) (h:Ah σ i m) (hA:Cf σ ab i a) (hab:ab ∉ i.l) (ho:a.ok) {sl:Ez} {l:List (Nat × Nat)} (hs:BI Ae 2 σ sl l.length (AJ l)):
  bR (AO (k+10) (DK ab) sl σ) σ i ab (Ca m a l):=by
 rw[Ku,Ix]
 cases l with
 | cons g l=>
   obtain ⟨b,e0,l0,_⟩:=R6 hs (x:=0) (by simp)
   rw[hs.len]
   rw[Nat.zero_mul] at l0
   refine ⟨σ, ?_,h,hA,Cm.refl _⟩
   simp only[decide_eq_true (show (((g::l).length:Nat):Int)>0 by simp only[List.length_cons]; omega),cond_true,if_pos (show (0:Int)≤0∧(0:Int)<(((g::l).length:Nat):Int) by simp only[List.length_cons]; omega),e0,Option.bind_some,Int.toNat_zero,Nat.zero_mul,Nat.add_zero,l0,Ca]
   rfl
 | nil=>
   obtain ⟨σ1,e1,g1,k1⟩:=ZR k hk h hA hab ho.s0
   have hA1:=hA.Wn k1 hab
   rw[hs.len]
   simp only[List.length_nil,decide_eq_false (show ¬ ((0:Nat):Int)>0 by omega),cond_false,e1,Option.bind_some,Z9,List.length_cons,List.head?_cons,List.tail_cons,Zx,Au,Ap,pk,Nat.zero_add,Nat.reduceAdd,if_true,(kf _ _ _ _).1]
   unfold XL Ui at *
   cases hfr:Qh m with
   | none=>
     simp only[hfr] at g1 ⊢
     rw[show Ca m a []=((0,false),m,a) from by simp only[Ca,hfr]]
     exact ⟨_,rfl,g1.app _,hA1.app _,(Cm.of k1).trans (Cm.app _ _)⟩
   | some b=>
     simp only[hfr] at g1 ⊢
     rw[show Ca m a []=((64*(b:Int),true),GA m b a.s,a) from by simp only[Ca,hfr]]
     exact ⟨_,rfl,g1.app _,hA1.app _,(Cm.of k1).trans (Cm.app _ _)⟩
theorem aq (k:Nat) (hk:5000≤k) (h:Ah σ i m) (hA:Cf σ ab i a) (hab:ab ∉ i.l) (ho:a.ok) (hI:Inv m) (h0:B0 m) {w:Nat} (hw:1≤w∧w≤1000):
  bR (CS (k+12) (DK ab) (w:Int) σ) σ i ab (Ca m a (BQ m a.s 0 w)):=by
 obtain ⟨τ,s,e1,h1,_⟩:=Z1 (k+3) (by omega) (h.app [.cells [] IL true]) (hA.app _) hI h0 (fr:=0) (by decide) hw
 obtain ⟨σ2,e2,g2,a2,k2⟩:=bE (k+1) (by omega) ((h.app [.cells [] IL true]).app τ) ((hA.app _).app _) hab ho h1
 refine ⟨σ2, ?_,g2,a2,((Cm.app _ _).trans (Cm.app _ _)).trans k2⟩
 have e1':AM (k+11) (DK ab) 0 (w:Int) (σ++[.cells [] IL true])=_:=e1
 have e2':AO (k+11) (DK ab) (s.1,s.2.1,s.2.2) (σ++[.cells [] IL true]++τ)=_:=e2
 rw[Nc,Le]
 simp only[Ap,e1',Option.bind_some,Hu,e2',SY]
def YN (m:HM) (a:AS) (w:Nat):PR:=
 if (Ca m a (BQ m a.s a.c.toNat w++BQ m a.s 0 w)).1.2=true then
  ((Ca m a (BQ m a.s a.c.toNat w++BQ m a.s 0 w)).1,(Ca m a (BQ m a.s a.c.toNat w++BQ m a.s 0 w)).2.1,a.put false ((Ca m a (BQ m a.s a.c.toNat w++BQ m a.s 0 w)).1.1+w) a.l)
 else Ca m a (BQ m a.s a.c.toNat w++BQ m a.s 0 w)
theorem ic (m:HM) (a:AS) (l:List (Nat × Nat)):(Ca m a l).2.2=a:=by
 unfold Ca
 split
 ·rfl
 ·split <;> rfl
theorem bC (hl:m.bls.length≤64) {l:List (Nat × Nat)} (hg:∀ g ∈ l,g.1≤10000):0≤(Ca m a l).1.1∧(Ca m a l).1.1≤10000:=by
 unfold Ca
 split
 ·have:=hg _ (List.mem_cons_self); dsimp only; omega
 ·split
  ·rename_i b hb
   have:=HW hb
   dsimp only; omega
  ·dsimp only; omega
theorem oH {f w:Nat} {g g':Nat × Nat} (hf:f≤10000) (hg:g.1+g.2≤10000) (h:JL f w g=some g'):g'.1≤10000:=by
 unfold JL at h
 split at h
 ·cases h; dsimp only; omega
 ·cases h
theorem Sa (hl:m.bls.length≤64) {s:Int} {f w:Nat} (hf:f≤10000):∀ g ∈ BQ m s f w,g.1≤10000:=by
 intro g hg
 unfold BQ at hg
 obtain ⟨g0,h0,hc⟩:=List.mem_filterMap.1 hg
 unfold Dg at h0
 obtain ⟨b,_,hb⟩:=List.mem_flatMap.1 h0
 exact oH hf (WY hl _ g0 hb) hc
theorem cd (k:Nat) (hk:5000≤k) (h:Ah σ i m) (hA:Cf σ ab i a) (hab:ab ∉ i.l) (ho:a.ok) (hI:Inv m) (h0:B0 m) {w:Nat} (hw:1≤w∧w≤1000):
  bR (Dt (k+12) (DK ab) (w:Int) σ) σ i ab (YN m a w):=by
 have hc:=ho.c0
 have hnt:=h.nt
 obtain ⟨c,hcc⟩:∃ c:Nat,a.c=(c:Int):=⟨a.c.toNat,by omega⟩
 obtain ⟨τ1,s1,e1,h1,lo1⟩:=Z1 (k+3) (by omega) (h.app [.cells [] J9 true]) (hA.app _) hI h0 (fr:=c) (by omega) hw
 obtain ⟨μ1,hμ1⟩:∃ μ1,σ++[Bh.cells [] J9 true]++τ1=μ1:=⟨_,rfl⟩
 rw[hμ1] at e1 h1
 have H1:Ah μ1 i m:=hμ1 ▸ (h.app _).app _
 have A1:Cf μ1 ab i a:=hμ1 ▸ (hA.app _).app _
 have K1:Cm i ab σ μ1:=hμ1 ▸ (Cm.app _ _).trans (Cm.app _ _)
 obtain ⟨τ2,s2,e2,h2,lo2⟩:=Z1 (k+3) (by omega) H1 A1 hI h0 (fr:=0) (by decide) hw
 have hlen:∀ f,(BQ m a.s f w).length≤64*33:=by
  intro f
  unfold BQ
  refine Nat.le_trans (List.length_filterMap_le _ _) ?_
  unfold Dg
  have hb:=IP m a.s m.bls.length
  have aux:∀ L:List Nat,(L.flatMap fun b:Nat=>Fg m (b:Int)).length≤L.length*33:=by
   intro L
   induction L with
   | nil=>simp
   | cons b L ih=>
     have:=M9 m (b:Int)
     rw[List.flatMap_cons,List.length_append,List.length_cons]; omega
  have:=aux (Bl m a.s m.bls.length)
  omega
 have hl1:=hlen c
 have hl2:=hlen 0
 obtain ⟨o,μ3,e3,g3,h3⟩:∃ o μ3,Bs P Ae s1 (s2.1,s2.2.1,s2.2.2) (μ1++τ2)=some (o,μ3)∧ER (μ1++τ2) s1 μ3 o∧BI Ae 2 μ3 o (BQ m a.s c w++BQ m a.s 0 w).length (AJ (BQ m a.s c w++BQ m a.s 0 w)):=by
  by_cases hz:BQ m a.s 0 w=[]
  ·rw[hz] at h2
   have f0:=h2.first
   have l2:=h2.len
   refine ⟨s1,μ1++τ2, ?_,ER.refl _ _,by rw[hz,List.append_nil]; exact h1.app _⟩
   rw[show s2.2.1=0 from l2]
   exact QL bG ZT bP rfl rfl (by decide) (μ1++τ2) s1 _ _ s2.1 s2.2.2 (h1.app _) f0
  ·have hp:0<(BQ m a.s 0 w).length:=List.length_pos_iff.2 hz
   have f0:=h2.first
   have l2:=h2.len
   obtain ⟨o,μ3,e,g,hh⟩:=PI bG ZT bP rfl rfl (by decide) (by decide) (by decide) (μ1++τ2) s1 (BQ m a.s c w).length (AJ (BQ m a.s c w)) s2.1 (BQ m a.s 0 w).length s2.2.2 (AJ (BQ m a.s 0 w)) (by omega) hp (KA _) (h1.app _) f0
   rw[l2]
   exact ⟨o,μ3,e,g,by rw[Jr,List.length_append]; exact hh⟩
 have hs1:∀ x,s1.1=some x→σ.length+1≤x.block:=fun x hx=>by have:=lo1 x hx; simp at this; omega
 have off1:qQ i s1:=fun x hx hm=>by have:=hs1 x hx; have:=h.lt _ hm; omega
 have oa1:∀ x,s1.1=some x→x.block≠ab:=fun x hx=>by have:=hs1 x hx; have:=hA.lt; omega
 obtain ⟨H3,_⟩:=g3.heap (H1.app τ2) off1
 obtain ⟨A3,_⟩:=g3.other (A1.app τ2) oa1
 have A3:Cf μ3 ab i a:=A3
 have K3:Cm i ab σ μ3:=⟨Nat.le_trans (K1.trans (Cm.app _ τ2)).len g3.len,fun q hq h1' h2'=>by
  rw[g3.same q (by have:=(K1.trans (Cm.app _ τ2)).len; omega) fun x hx=>by have:=hs1 x hx; omega]
  exact (K1.trans (Cm.app _ τ2)).same q hq h1' h2'⟩
 obtain ⟨μ4,e4,H4,A4,K4⟩:=bE (k+1) (by omega) H3 A3 hab ho h3
 rw[ic] at A4
 have e1':AM (k+11) (DK ab) (c:Int) (w:Int) (σ++[.cells [] J9 true])=_:=e1
 have e2':AM (k+11) (DK ab) 0 (w:Int) μ1=_:=e2
 have e3':Bs P Ae (s1.1,s1.2.1,s1.2.2) (s2.1,s2.2.1,s2.2.2) (μ1++τ2)=_:=e3
 have e4':AO (k+11) (DK ab) (o.1,o.2.1,o.2.2) μ3=_:=e4
 have l3:Ai .i64 (σ++[.cells [] J9 true]) ab 3=some (c:Int):=by rw[(hA.app _).l3,hcc]
 have had:=bC (m:=m) (a:=a) hnt (l:=BQ m a.s c w++BQ m a.s 0 w) (fun g hg=>by
  rcases List.mem_append.1 hg with hg | hg
  ·exact Sa hnt (by omega) g hg
  ·exact Sa hnt (by decide) g hg)
 unfold YN
 rw[show a.c.toNat=c from by omega]
 rw[N8,LQ]
 simp only[Ap,Option.bind_some,Nat.zero_add,Nat.add_zero,l3,e1',Hu,e2',e3',e4',SY]
 have hra:=ic m a (BQ m a.s c w++BQ m a.s 0 w)
 generalize Ca m a (BQ m a.s c w++BQ m a.s 0 w)=r at *
 by_cases q:r.1.2=true
 ·rw[if_pos q]
  simp only[q,cond_true,Ad (show Bd (r.1.1+(w:Int)) by unfold Bd; omega)]
  have:=A4.sm false (r.1.1+(w:Int))
  rw[show mf false=3 from rfl] at this
  simp only[this,Option.bind_some,if_true]
  exact ⟨μ4.set ab (.cells ((a.put false (r.1.1+(w:Int)) a.l).row i.hb) AU true),by rw[show ((r.1,r.2.1,a.put false (r.1.1+(w:Int)) a.l):PR).1.2=true from q]; rfl,H4.R5 hab _,A4.put _,(K3.trans K4).trans (Cm.set _ _)⟩
 ·rw[if_neg q]
  have q':r.1.2=false:=by simpa using q
  simp only[q',cond_false,Option.bind_some,if_true]
  exact ⟨μ4,by simp only[q'],H4,by rw[hra]; exact A4,K3.trans K4⟩
end Go.Proofs.YtlaplcglpnlieaaGreat
end
section
namespace Go.Proofs.YtlaplcglpnlieaaGreat
open Go Go.AX
noncomputable local instance uh:AL:=As
local instance sX:Kn:=⟨true⟩
variable {σ:Aa} {i:C8} {m:HM} {ab:Nat} {a:AS}
def K9 (ls:List Bool):Nat→Nat→Nat
 | 0,n=>n
 | f+1,n=>if n<ls.length∧ls.getD n false=false then K9 ls f (n+1) else n
theorem dx (ls:List Bool):∀ (f n:Nat),n≤K9 ls f n
 | 0,n=>Nat.le_refl _
 | f+1,n=>by
   unfold K9
   split
   ·exact Nat.le_trans (Nat.le_succ n) (dx ls f (n+1))
   ·exact Nat.le_refl _
theorem Yp (ls:List Bool):∀ (f n:Nat),n≤ls.length→K9 ls f n≤ls.length
 | 0,n,h=>h
 | f+1,n,h=>by
   unfold K9
   split
   ·exact Yp ls f (n+1) (by omega)
   ·exact h
def VO (ls:List Bool):Nat→Nat→List (Nat × Nat)
 | 0,_=>[]
 | f+1,x=>if x<ls.length then (if x<K9 ls 8 x then [(x,K9 ls 8 x)] else [])++VO ls f (max (K9 ls 8 x) x+1) else []
theorem aD (k:Nat) {ls:List Bool} (hls:ls.length≤8) {s:Ez} (hs:BI DX 1 σ s ls.length (Ga ls)):∀ (n x f:Nat),x+n=ls.length→n<f →
  Cc k f s.1 ls.length s.2.2 (x:Int) σ=some (.exit 4,[.int .i64 ((K9 ls n x:Nat):Int)],σ)
 | n,x,0,hx,hf=>by omega
 | 0,x,f+1,hx,hf=>by
   rw[G1,FA]
   simp only[decide_eq_false (show ¬ (x:Int)<((ls.length:Nat):Int) by omega),cond_false,Option.bind_some,K9]
 | n+1,x,f+1,hx,hf=>by
   have hxl:x<ls.length:=by omega
   obtain ⟨b,e0,l0⟩:=Zy hs hxl
   have w1:Ac ((x:Int)+1)=((x+1:Nat):Int):=Ad (by unfold Bd; omega)
   have ih:=aD k hls hs n (x+1) f (by omega) (by omega)
   rw[e0] at ih
   rw[G1,FA]
   simp only[decide_eq_true (show (x:Int)<((ls.length:Nat):Int) by omega),cond_true,if_pos (show (0:Int)≤(x:Int)∧(x:Int)<((ls.length:Nat):Int) by omega),e0,Option.bind_some,Int.toNat_natCast,Nat.zero_add,Nat.mul_one,l0,K9,w1,ih]
   cases ls.getD x false with
   | false=>simp only[Bool.not_false,cond_true,hxl,and_self,if_true]
   | true=>simp only[Bool.not_true,cond_false,Bool.true_eq_false,and_false,if_false]
theorem YV (ls:List Bool):∀ (f g n:Nat),ls.length≤n+f→ls.length≤n+g→K9 ls f n=K9 ls g n
 | 0,0,n,_,_=>rfl
 | 0,g+1,n,h,_=>by unfold K9; rw[if_neg (by omega)]
 | f+1,0,n,_,h=>by unfold K9; rw[if_neg (by omega)]
 | f+1,g+1,n,h1,h2=>by
   unfold K9
   rw[YV ls f g (n+1) (by omega) (by omega)]
def Sd (ls:List Bool) (b:Nat) (lim:Int) (f x:Nat):Option (Nat × Nat):=(VO ls f x).find? fun g=>decide (64*(b:Int)+8*(g.1:Int)≥lim)
theorem aC (k:Nat) (hk:100≤k) {ls:List Bool} (hls:ls.length≤8) {b:Nat} (hb:b≤64) (s:Ez) {h1:Nat} (hn1:h1≠ab) (hs1:∀ x,s.1=some x→x.block≠h1):∀ (n x f:Nat) (σ:Aa),Cf σ ab i a→BI DX 1 σ s ls.length (Ga ls)→σ[h1]?=some (Hv 0 0)→ls.length<x+n→x≤20→n<f →
  Cb k f (DK ab) h1 (b:Int) s.1 ls.length s.2.2 (x:Int) σ=some (match Sd ls b a.l n x with | some g=>(.ret,[.bool true],σ.set h1 (Hv (64*(b:Int)+8*(g.1:Int)) (64*(b:Int)+8*(g.2:Int)))) | none=>(.exit 2,[],σ))
 | n,x,0,σ,hA,hs,hc,hx,hx2,hf=>by omega
 | n,x,f+1,σ,hA,hs,hc,hx,hx2,hf=>by
   rw[Jx,Hl]
   by_cases hxl:x<ls.length
   ·obtain ⟨n,rfl⟩:∃ n',n=n'+1:=⟨n-1,by omega⟩
    have e1:=aD k hls hs (ls.length-x) x k (by omega) (by omega)
    rw[YV ls (ls.length-x) 8 x (by omega) (by omega)] at e1
    have hge:=dx ls 8 x
    have hle:=Yp ls 8 x (by omega)
    generalize hr:K9 ls 8 x=r at *
    have w1:Ac ((b:Int)*64)=64*(b:Int):=by rw[Ad (by unfold Bd; omega)]; omega
    have w2:Ac ((x:Int)*8)=8*(x:Int):=by rw[Ad (by unfold Bd; omega)]; omega
    have w3:Ac (64*(b:Int)+8*(x:Int))=64*(b:Int)+8*(x:Int):=Ad (by unfold Bd; omega)
    have w4:Ac ((r:Int)*8)=8*(r:Int):=by rw[Ad (by unfold Bd; omega)]; omega
    have w5:Ac (64*(b:Int)+8*(r:Int))=64*(b:Int)+8*(r:Int):=Ad (by unfold Bd; omega)
    have w6:Ac ((if ((r:Nat):Int)>(x:Int) then ((r:Nat):Int) else (x:Int))+1)=((max r x+1:Nat):Int):=by
     rw[show (if ((r:Nat):Int)>(x:Int) then ((r:Nat):Int) else (x:Int))=((max r x:Nat):Int) from by split <;> omega]
     exact Ad (by unfold Bd; omega)
    have ih:=aC k hk hls hb s hn1 hs1 n (max r x+1) f σ hA hs hc (by omega) (by omega) (by omega)
    have ep:Sd ls b a.l (n+1) x=if x<r then (if 64*(b:Int)+8*(x:Int)≥a.l then some (x,r) else Sd ls b a.l n (max r x+1)) else Sd ls b a.l n (max r x+1):=by
     unfold Sd
     rw[VO,if_pos hxl,hr]
     by_cases q:x<r
     ·rw[if_pos q,if_pos q,List.singleton_append,List.find?_cons]
      by_cases q2:64*(b:Int)+8*(x:Int)≥a.l
      ·rw[if_pos q2]; simp only[decide_eq_true q2]
      ·rw[if_neg q2]; simp only[decide_eq_false q2]
     ·rw[if_neg q,if_neg q,List.nil_append]
    simp only[decide_eq_true (show (x:Int)<((ls.length:Nat):Int) by omega),cond_true,e1,Option.bind_some,if_true,D0,Nat.zero_add,Nat.reduceAdd,hA.l4,w1,w2,w3,w4,w5,w6,ep]
    by_cases q:x<r
    ·simp only[decide_eq_true (show ((r:Nat):Int)>(x:Int) by omega),cond_true,Option.bind_some,if_pos q]
     by_cases q2:64*(b:Int)+8*(x:Int)≥a.l
     ·simp only[decide_eq_true q2,cond_true,if_pos q2,Ke,hc,Hv]
      rfl
     ·simp only[decide_eq_false q2,cond_false,if_neg q2,ih]
    ·simp only[decide_eq_false (show ¬ ((r:Nat):Int)>(x:Int) by omega),cond_false,Option.bind_some,if_neg q,ih]
   ·have ep:Sd ls b a.l n x=none:=by
     unfold Sd
     cases n with
     | zero=>rfl
     | succ n=>rw[VO,if_neg hxl]; rfl
    simp only[decide_eq_false (show ¬ (x:Int)<((ls.length:Nat):Int) by omega),cond_false,ep]
def NI (m:HM) (lim:Int):List Nat→Option (Nat × Nat × Nat)
 | []=>none
 | b::l=>match Sd (Ej m (b:Int)) b lim 9 0 with
   | some g=>some (b,g.1,g.2)
   | none=>NI m lim l
theorem Qq (m:HM) (b:Int):(Ej m b).length≤8:=by
 unfold Ej
 split
 ·rw[Mf]; exact Nat.le_refl _
 ·simp
theorem aB (k:Nat) (hk:5000≤k) (hI:Inv m) (hI2:Inv2 m) (h0:B0 m) {L:List Nat} (hL:∀ b ∈ L,b<m.bls.length) {h1:Nat} (hn1:h1≠ab) (hn2:h1 ∉ i.l) (s:Ez) (hs1:∀ x,s.1=some x→x.block≠h1) (hLl:L.length≤64):∀ (n x f:Nat) (σ:Aa),Ah σ i m→Cf σ ab i a→BI B3 1 σ s (U8 L).length (Dd (U8 L))→σ[h1]?=some (Hv 0 0)→x+n=L.length→n<f →
  ∃ σ',BB (k+7) f (DK ab) h1 s.1 L.length s.2.2 ((L.length:Nat):Int) (x:Int) σ=some (match NI m a.l (L.drop x) with | some _=>(.ret,[.bool true],σ') | none=>(.exit 0,[],σ')) ∧
   σ'[h1]?=some (match NI m a.l (L.drop x) with | some g=>Hv (64*(g.1:Int)+8*(g.2.1:Int)) (64*(g.1:Int)+8*(g.2.2:Int)) | none=>Hv 0 0)∧σ.length≤σ'.length ∧ ∀ q,q<σ.length→q≠h1→σ'[q]?=σ[q]?
 | n,x,0,σ,h,hA,hs,hc,hx,hf=>by omega
 | 0,x,f+1,σ,h,hA,hs,hc,hx,hf=>by
   rw[G0,F9,List.drop_of_length_le (by omega)]
   exact ⟨σ,by simp only[decide_eq_false (show ¬ (x:Int)<((L.length:Nat):Int) by omega),cond_false,NI],hc,Nat.le_refl _,fun _ _ _=>rfl⟩
 | n+1,x,f+1,σ,h,hA,hs,hc,hx,hf=>by
   have hnt:=h.nt
   have hxl:x<L.length:=by omega
   obtain ⟨b,e0,l0⟩:=m9 hs (show x<(U8 L).length by unfold U8; simpa using hxl)
   rw[da hxl] at l0
   have hbl:=hL L[x] (List.getElem_mem _)
   have qx:(0≤(x:Int)∧(x:Int)<((L.length:Nat):Int))=True:=eq_true (by omega)
   have w1:Ac ((x:Int)+1)=((x+1:Nat):Int):=Ad (by unfold Bd; omega)
   obtain ⟨τ,s1,e1,g1,lo1⟩:=o7 k hk h hI hI2 h0 ((L[x]:Nat):Int)
   have hcl:=Af hc
   have hc1:(σ++τ)[h1]?=some (Hv 0 0):=by rw[List.getElem?_append_left hcl]; exact hc
   have e2:=aC (k+7) (by omega) (Qq m ((L[x]:Nat):Int)) (b:=L[x]) (by omega) s1 (ab:=ab) (a:=a) hn1 (fun y hy=>by have:=lo1 y hy; omega) 9 0 (k+7) (σ++τ) (hA.app _) g1 hc1 (by have:=Qq m ((L[x]:Nat):Int); omega) (by omega) (by omega)
   have hdr:L.drop x=L[x]::L.drop (x+1):=List.drop_eq_getElem_cons hxl
   rw[G0,F9,hdr,NI]
   rw[show ((0:Nat):Int)=0 from rfl] at e2
   simp only[decide_eq_true (show (x:Int)<((L.length:Nat):Int) by omega),cond_true,qx,if_true,e0,Option.bind_some,Int.toNat_natCast,Nat.zero_add,Nat.add_zero,Nat.mul_one,l0,hA.X5,e1,Hu,g1.len,e2,w1]
   cases hg:Sd (Ej m ((L[x]:Nat):Int)) L[x] a.l 9 0 with
   | some g=>
     refine ⟨(σ++τ).set h1 (Hv (64*((L[x]:Nat):Int)+8*(g.1:Int)) (64*((L[x]:Nat):Int)+8*(g.2:Int))), ?_,by rw[List.getElem?_set_self (Af hc1)],by simp,fun q hq hn=>by rw[List.getElem?_set_ne (fun e=>hn e.symm),List.getElem?_append_left hq]⟩
     simp only[show (Bk.ret=Bk.exit 2)=False from by simp,if_false,if_true,Tt]
   | none=>
     obtain ⟨σ',e3,c3,l3,s3⟩:=aB k hk hI hI2 h0 hL hn1 hn2 s hs1 hLl n (x+1) f (σ++τ) (h.app _) (hA.app _) (hs.app _) hc1 (by omega) (by omega)
     rw[e0] at e3
     refine ⟨σ', ?_,c3,by simp at l3; omega,fun q hq hn=>by rw[s3 q (by simp; omega) hn,List.getElem?_append_left hq]⟩
     simp only[if_true,e3]
def MB (m:HM) (a:AS):Int × Int × Bool:=match NI m a.l (Bl m a.s m.bls.length) with | some g=>(64*(g.1:Int)+8*(g.2.1:Int),64*(g.1:Int)+8*(g.2.2:Int),true) | none=>XL m
def Ns (m:HM) (a:AS):HM:=match NI m a.l (Bl m a.s m.bls.length) with | some g=>m | none=>Ui m a.s
theorem oP (k:Nat) (hk:5000≤k) (h:Ah σ i m) (hA:Cf σ ab i a) (hab:ab ∉ i.l) (ho:a.ok) (hI:Inv m) (hI2:Inv2 m) (h0:B0 m):
  ∃ σ',CC (k+10) (DK ab) σ=some (.tuple #[.agg #[.int .i64 (MB m a).1,.int .i64 (MB m a).2.1],.bool (MB m a).2.2],σ')∧Ah σ' i (Ns m a)∧BF i σ σ':=by
 have hnt:=h.nt
 have hlt:=hA.lt
 have hnl:σ.length ∉ i.l:=fun hm=>Nat.lt_irrefl _ (h.lt _ hm)
 obtain ⟨τ1,s1,e1,g1⟩:=cx (k+4) (by omega) (h.app [Hv 0 0]) (hA.app [Hv 0 0])
 have hbl:=IP m a.s m.bls.length
 have hc0:(σ++[Hv 0 0]++τ1)[σ.length]?=some (Hv 0 0):=by rw[List.getElem?_append_left (by simp)]; simp
 obtain ⟨σ2,e2,c2,l2,k2⟩:=aB (ab:=ab) (a:=a) (i:=i) (k+2) (by omega) hI hI2 h0 (L:=Bl m a.s m.bls.length) (fun b hb=>(MD.1 hb).1) (h1:=σ.length) (by omega) hnl s1 (fun x hx=>by have:=(g1.ge x hx).1; simp at this; omega) (by omega) (Bl m a.s m.bls.length).length 0 (k+9) (σ++[Hv 0 0]++τ1) ((h.app _).app _) ((hA.app _).app _) g1.sl hc0 (by omega) (by omega)
 rw[List.drop_zero] at e2 c2
 have kp:BF i σ σ2:=⟨by simp at l2; omega,fun q hq hm=>by rw[k2 q (by simp; omega) (by omega),List.append_assoc,List.getElem?_append_left hq]⟩
 have h2:Ah σ2 i m:=h.Db fun j hj=>by
  have:=h.lt j hj
  rw[k2 j (by simp; omega) (by omega),List.append_assoc,List.getElem?_append_left this]
 have A2:Cf σ2 ab i a:=hA.Wn kp hab
 have hlen:s1.2.1=(Bl m a.s m.bls.length).length:=by rw[g1.len]; simp[U8]
 have e1':Bo (k+9) (DK ab) (σ++[Hv 0 0])=_:=e1
 have e2':BB (k+9) (k+9) (DK ab) σ.length s1.1 (Bl m a.s m.bls.length).length s1.2.2 (((Bl m a.s m.bls.length).length:Nat):Int) 0 (σ++[Hv 0 0]++τ1)=_:=e2
 unfold MB Ns
 rw[KW,IZ]
 simp only[Ap,show (Bh.cells [.int .i64 0,.int .i64 0] En true)=Hv 0 0 from rfl,e1',Option.bind_some,Hu,hlen,e2']
 cases hh:NI m a.l (Bl m a.s m.bls.length) with
 | some g=>
   rw[hh] at c2
   refine ⟨σ2, ?_,h2,kp⟩
   simp only[show (Bk.ret=Bk.exit 0)=False from by simp,if_false,if_true,Tt,VI,c2,Hv]
   rfl
 | none=>
   rw[hh] at c2
   obtain ⟨σ3,e3,h3,k3⟩:=ZR k hk h2 A2 hab ho.s0
   have c3:=(k3.same _ (Af c2) hnl).trans c2
   refine ⟨σ3.set σ.length (Hv (XL m).1 (XL m).2.1), ?_,h3.Db fun j hj=>List.getElem?_set_ne fun e=>hnl (by rw[e]; exact hj),⟨by have:=kp.len; have:=k3.len; simp; omega,fun q hq hm=>?_⟩⟩
   ·simp only[if_true,e3,Option.bind_some,Z9,List.length_cons,List.length_nil,List.head?_cons,List.tail_cons,Zx,Au,Nat.zero_add,Nat.reduceAdd,Ke,c3,Hv,VI]
    simp[AE,Qw,List.getElem?_set_self (Af c3)]
   ·have:=kp.len
    rw[List.getElem?_set_ne (by omega),k3.same q (by omega) hm,kp.same q hq hm]
end Go.Proofs.YtlaplcglpnlieaaGreat
end
section
namespace Go.Proofs.YtlaplcglpnlieaaGreat
open Go Go.AX
noncomputable local instance uj:AL:=As
local instance sZ:Kn:=⟨true⟩
variable {σ:Aa} {b:Nat} {R:List (Nat × Nat)}
def gd (R:List (Nat × Nat)) (x:Nat):Nat × Nat:=R.getD x (0,0)
def Gw (σ:Aa) (b:Nat) (R:List (Nat × Nat)):Prop:=σ[b]?=some (.cells (AJ R) Ae true)
structure Fh (b:Nat) (σ σ':Aa):Prop where
 len:σ.length≤σ'.length
 same:∀ q,q<σ.length→q≠b→σ'[q]?=σ[q]?
theorem Fh.refl (σ:Aa):Fh b σ σ:=⟨Nat.le_refl _,fun _ _ _=>rfl⟩
theorem Fh.trans {x y z:Aa} (h:Fh b x y) (g:Fh b y z):Fh b x z:=⟨Nat.le_trans h.len g.len,fun q h1 h2=>(g.same q (Nat.lt_of_lt_of_le h1 h.len) h2).trans (h.same q h1 h2)⟩
theorem Fh.app (σ τ:Aa):Fh b σ (σ++τ):=⟨by simp,fun q h _=>List.getElem?_append_left h⟩
theorem Fh.set (σ:Aa) (o:Bh):Fh b σ (σ.set b o):=⟨by simp,fun q _ h=>List.getElem?_set_ne fun e=>h e.symm⟩
theorem Gw.app (h:Gw σ b R) (τ:Aa):Gw (σ++τ) b R:=by unfold Gw; rw[List.getElem?_append_left (Af h)]; exact h
theorem Gw.ld (h:Gw σ b R) {x:Nat} (hx:x<R.length):Ai .i64 σ b (x*2)=some ((gd R x).1:Int)∧Ai .i64 σ b (x*2+1)=some ((gd R x).2:Int):=by
 obtain ⟨h1,h2⟩:=Wx R x hx
 unfold Gw at h
 exact ⟨by simp only[Ai,Gt,h,h1,Option.bind_some,An]; rfl,by simp only[Ai,Gt,h,h2,Option.bind_some,An]; rfl⟩
theorem bg:∀ (R:List (Nat × Nat)) (x:Nat) (e:Nat × Nat),x<R.length→AE (AJ R) (x*2) [.int .i64 (e.1:Int),.int .i64 (e.2:Int)]=AJ (R.set x e)
 | g::R,0,e,h=>by simp[AJ,AE]
 | g::R,x+1,e,h=>by
   have ih:=bg R x e (by simpa using h)
   simp only[List.set_cons_succ,AJ,← ih,AE]
   rw[show (x+1)*2=x*2+1+1 from by omega]
   simp[List.take_succ_cons,List.drop_succ_cons,Nat.add_right_comm]
theorem Gw.st (h:Gw σ b R) {x:Nat} (hx:x<R.length) (e:Nat × Nat):Ke σ b (x*2) [.int .i64 (e.1:Int),.int .i64 (e.2:Int)]=some (σ.set b (.cells (AJ (R.set x e)) Ae true))∧Gw (σ.set b (.cells (AJ (R.set x e)) Ae true)) b (R.set x e):=by
 have h':=h
 unfold Gw at h'
 constructor
 ·simp only[Ke,h']
  rw[if_pos (by rw[KA]; simp; omega),bg R x e hx]
 ·unfold Gw; rw[List.getElem?_set_self (Af h)]
theorem mU (R:List (Nat × Nat)) (x y:Nat) (e:Nat × Nat) (hx:x<R.length):gd (R.set x e) y=if y=x then e else gd R y:=by
 unfold gd
 rw[List.getD_eq_getElem?_getD,List.getElem?_set]
 by_cases q:x=y
 ·subst q; rw[if_pos rfl,if_pos rfl,if_pos hx]; rfl
 ·rw[if_neg q,if_neg (fun e=>q e.symm),List.getD_eq_getElem?_getD]
def sw (R:List (Nat × Nat)) (x y:Nat):List (Nat × Nat):=(R.set x (gd R y)).set y (gd R x)
theorem bF (R:List (Nat × Nat)) (x y:Nat):(sw R x y).length=R.length:=by simp[sw]
theorem gj (R:List (Nat × Nat)) (x y z:Nat) (hx:x<R.length) (hy:y<R.length):gd (sw R x y) z=if z=y then gd R x else if z=x then gd R y else gd R z:=by
 unfold sw
 rw[mU _ _ _ _ (by simpa using hy),mU _ _ _ _ hx]
theorem Gw.sw (h:Gw σ b R) {x y:Nat} (hx:x<R.length) (hy:y<R.length):
  ∃ σ1 σ2,Ke σ b (x*2) [.int .i64 ((gd R y).1:Int),.int .i64 ((gd R y).2:Int)]=some σ1∧Ke σ1 b (y*2) [.int .i64 ((gd R x).1:Int),.int .i64 ((gd R x).2:Int)]=some σ2∧Gw σ2 b (sw R x y)∧Fh b σ σ2:=by
 obtain ⟨e1,h1⟩:=h.st hx (gd R y)
 obtain ⟨e2,h2⟩:=h1.st (x:=y) (by simpa using hy) (gd R x)
 exact ⟨_,_,e1,e2,h2,(Fh.set _ _).trans (Fh.set _ _)⟩
abbrev PX:Value:=.func (.func Np) #[] #[]
def bS (R:List (Nat × Nat)):Prop:=∀ x,(gd R x).1≤10000∧(gd R x).2≤10000
theorem dS (k:Nat) (e g:Nat × Nat) (he:e.2≤10000) (hg:g.2≤10000) (σ:Aa):∃ τ,CX (k+1) PX [.agg #[.int .i64 (e.1:Int),.int .i64 (e.2:Int)],.agg #[.int .i64 (g.1:Int),.int .i64 (g.2:Int)]] σ=some (.int .i64 ((e.2:Int)-(g.2:Int)),σ++τ):=by
 rw[show PX = .func (.func Np) #[] #[] from rfl,Nb,Lu,JA]
 simp only[Ap]
 have l1:Ai .i64 (σ++[Bh.cells [.int .i64 (e.1:Int),.int .i64 (e.2:Int)] Ae true]++[Bh.cells [.int .i64 (g.1:Int),.int .i64 (g.2:Int)] Ae true]) σ.length 1=some (e.2:Int):=by
  rw[dX _ _ _ (by simp)]; exact (kf _ _ _ _).2
 have l2:=(kf (σ++[Bh.cells [.int .i64 (e.1:Int),.int .i64 (e.2:Int)] Ae true]) Ae (g.1:Int) (g.2:Int)).2
 simp only[Nat.zero_add,l1,l2,Option.bind_some,Ad (show Bd ((e.2:Int)-(g.2:Int)) by unfold Bd; omega)]
 exact ⟨_,by rw[List.append_assoc]⟩
theorem iT (e g:Nat × Nat):decide ((e.2:Int)-(g.2:Int)<0)=decide (e.2<g.2):=by
 by_cases q:e.2<g.2
 ·rw[decide_eq_true q,decide_eq_true (by omega)]
 ·rw[decide_eq_false q,decide_eq_false (by omega)]
def Wr (e g:Nat × Nat):Prop:=e.2<g.2∨(e.2=g.2∧e.1<g.1)
theorem Wr.trans {e g h:Nat × Nat} (a:Wr e g) (c:Wr g h):Wr e h:=by unfold Wr at *; omega
def Sy (R:List (Nat × Nat)) (lo hi:Nat):Prop:=∀ x y,lo≤x→x<y→y<hi→Wr (gd R x) (gd R y)
def O1 (R R':List (Nat × Nat)) (lo hi:Nat):Prop:=∀ e,(∃ x,lo≤x∧x<hi∧gd R' x=e)↔(∃ x,lo≤x∧x<hi∧gd R x=e)
def RD (R R':List (Nat × Nat)) (lo hi:Nat):Prop:=∀ x,x<lo∨hi≤x→gd R' x=gd R x
structure Zi (R R':List (Nat × Nat)) (lo hi:Nat):Prop where
 len:R'.length=R.length
 srt:Sy R' lo hi
 set:O1 R R' lo hi
 out:RD R R' lo hi
theorem bS.of {R':List (Nat × Nat)} {lo hi:Nat} (h:bS R) (hs:O1 R R' lo hi) (ho:RD R R' lo hi):bS R':=by
 intro x
 by_cases q:lo≤x∧x<hi
 ·obtain ⟨y,_,_,hy⟩:=(hs (gd R' x)).1 ⟨x,q.1,q.2,rfl⟩
  rw[← hy]; exact h y
 ·rw[ho x (by omega)]; exact h x
theorem bS.sw (h:bS R) {x y:Nat} (hx:x<R.length) (hy:y<R.length):bS (sw R x y):=by
 intro z
 rw[gj _ _ _ _ hx hy]
 split
 ·exact h x
 ·split
  ·exact h y
  ·exact h z
theorem cS (k:Nat) {a:Nat} (hln:R.length≤3000):∀ (n j f:Nat) (σ:Aa) (R':List (Nat × Nat)),R'.length=R.length→Gw σ b R'→bS R'→j=a+n→j<R.length→Sy R' a j→(∀ x,a≤x→x<j→(gd R' x).1<(gd R' j).1)→n<f →
  ∃ σ' R'',AG (k+1) f (some ⟨b,0,none⟩) R.length R.length (a:Int) PX (j:Int) σ=some (.exit 2,[],σ')∧Gw σ' b R''∧Zi R' R'' a (j+1)∧Fh b σ σ'
 | n,j,0,σ,R',hl,h,hS,hj,hjl,hs,hlt,hf=>by omega
 | 0,j,f+1,σ,R',hl,h,hS,hj,hjl,hs,hlt,hf=>by
   rw[Df,Cz]
   refine ⟨σ,R', ?_,h,⟨rfl,fun x y h1 h2 h3=>by omega,fun e=>Iff.rfl,fun x _=>rfl⟩,Fh.refl _⟩
   simp only[decide_eq_false (show ¬ (j:Int)>(a:Int) by omega),cond_false,Option.bind_some]
 | n+1,j,f+1,σ,R',hl,h,hS,hj,hjl,hs,hlt,hf=>by
   obtain ⟨p,rfl⟩:∃ p,j=p+1:=⟨j-1,by omega⟩
   have w1:Ac (((p+1:Nat):Int)-1)=(p:Int):=by rw[Ad (by unfold Bd; omega)]; omega
   obtain ⟨l0,l1⟩:=h.ld (x:=p+1) (by omega)
   obtain ⟨l2,l3⟩:=h.ld (x:=p) (by omega)
   obtain ⟨τ,ec⟩:=dS k (gd R' (p+1)) (gd R' p) (hS _).2 (hS _).2 σ
   have q1:(0≤((p+1:Nat):Int)∧((p+1:Nat):Int)<((R.length:Nat):Int))=True:=eq_true (by omega)
   have q2:(0≤((p:Nat):Int)∧((p:Nat):Int)<((R.length:Nat):Int))=True:=eq_true (by omega)
   have h1:=h.app τ
   obtain ⟨m0,m1⟩:=h1.ld (x:=p+1) (by omega)
   obtain ⟨m2,m3⟩:=h1.ld (x:=p) (by omega)
   rw[Df,Cz]
   simp only[decide_eq_true (show ((p+1:Nat):Int)>(a:Int) by omega),cond_true,q1,q2,if_true,w1,Option.bind_some,Int.toNat_natCast,Nat.zero_add,l0,l1,l2,l3,ec,An,iT,m0,m1,m2,m3]
   by_cases q:(gd R' (p+1)).2<(gd R' p).2
   ·obtain ⟨σ1,σ2,e1,e2,g2,o2⟩:=h1.sw (x:=p+1) (y:=p) (by omega) (by omega)
    have gs:∀ z,gd (sw R' (p+1) p) z=if z=p then gd R' (p+1) else if z=p+1 then gd R' p else gd R' z:=fun z=>gj _ _ _ _ (by omega) (by omega)
    obtain ⟨σ3,R3,e3,g3,d3,o3⟩:=cS k (a:=a) hln n p f σ2 (sw R' (p+1) p) (by rw[bF]; exact hl) g2 (hS.sw (by omega) (by omega)) (by omega) (by omega) (fun x y a1 a2 a3=>by
     rw[gs,gs,if_neg (by omega),if_neg (by omega),if_neg (by omega),if_neg (by omega)]; exact hs x y a1 a2 (by omega)) (fun x a1 a2=>by
     rw[gs,gs,if_neg (by omega),if_neg (by omega),if_pos rfl]; exact hlt x a1 (by omega)) (by omega)
    refine ⟨σ3,R3, ?_,g3,⟨by rw[d3.len,bF], ?_, ?_, ?_⟩,((Fh.app _ _).trans o2).trans o3⟩
    ·simp only[decide_eq_true q,cond_true,e1,Option.bind_some,e2,e3]
    ·intro x y a1 a2 a3
     by_cases q3:y<p+1
     ·exact d3.srt x y a1 a2 q3
     ·obtain rfl:y=p+1:=by omega
      rw[d3.out (p+1) (by omega),gs (p+1),if_neg (by omega),if_pos rfl]
      obtain ⟨z,z1,z2,hz⟩:=(d3.set (gd R3 x)).1 ⟨x,a1,by omega,rfl⟩
      rw[← hz,gs]
      split
      ·exact .inl q
      ·rw[if_neg (by omega)]; exact hs z p z1 (by omega) (by omega)
    ·intro e
     constructor
     ·rintro ⟨x,a1,a2,rfl⟩
      by_cases q3:x<p+1
      ·obtain ⟨z,z1,z2,hz⟩:=(d3.set (gd R3 x)).1 ⟨x,a1,q3,rfl⟩
       rw[← hz,gs]
       split
       ·exact ⟨p+1,by omega,by omega,rfl⟩
       ·rw[if_neg (by omega)]; exact ⟨z,z1,by omega,rfl⟩
      ·obtain rfl:x=p+1:=by omega
       rw[d3.out (p+1) (by omega),gs (p+1),if_neg (by omega),if_pos rfl]
       exact ⟨p,by omega,by omega,rfl⟩
     ·rintro ⟨x,a1,a2,rfl⟩
      by_cases q3:x=p
      ·subst q3
       refine ⟨x+1,by omega,by omega, ?_⟩
       rw[d3.out (x+1) (by omega),gs,if_neg (by omega),if_pos rfl]
      ·have:∃ z,a≤z∧z<p+1∧gd (sw R' (p+1) p) z=gd R' x:=by
        by_cases q4:x=p+1
        ·exact ⟨p,by omega,by omega,by rw[gs,if_pos rfl,q4]⟩
        ·exact ⟨x,a1,by omega,by rw[gs,if_neg q3,if_neg q4]⟩
       obtain ⟨z,z1,z2,z3⟩:=(d3.set (gd R' x)).2 this
       exact ⟨z,z1,by omega,z3⟩
    ·intro x hx
     rw[d3.out x (by omega),gs,if_neg (by omega),if_neg (by omega)]
   ·refine ⟨σ++τ,R', ?_,h1,⟨rfl, ?_,fun e=>Iff.rfl,fun x _=>rfl⟩,Fh.app _ _⟩
    ·simp only[decide_eq_false q,cond_false]
    ·have key:Wr (gd R' p) (gd R' (p+1)):=by
      have:=hlt p (by omega) (by omega)
      unfold Wr; omega
     intro x y a1 a2 a3
     by_cases q3:y<p+1
     ·exact hs x y a1 a2 q3
     ·obtain rfl:y=p+1:=by omega
      by_cases q4:x=p
      ·subst q4; exact key
      ·exact (hs x p a1 (by omega) (by omega)).trans key
def rD (R:List (Nat × Nat)) (lo hi:Nat):Prop:=∀ x y,lo≤x→x<y→y<hi→(gd R x).1<(gd R y).1
theorem cQ (k:Nat) (hk:5000≤k) {a c:Nat} (hln:R.length≤3000) (hc:c≤R.length):∀ (n j f:Nat) (σ:Aa) (R':List (Nat × Nat)),R'.length=R.length→Gw σ b R'→bS R'→c≤j+n→a<j→Sy R' a j→(∀ x y,a≤x→x<y→j≤y→y<c→(gd R' x).1<(gd R' y).1)→n<f →
  ∃ σ' R'',AF (k+1) f (some ⟨b,0,none⟩) R.length R.length (a:Int) (c:Int) PX (j:Int) σ=some (.exit 0,[],σ')∧Gw σ' b R''∧Zi R' R'' a (max j c)∧Fh b σ σ'
 | n,j,0,σ,R',hl,h,hS,hj,haj,hs,hlt,hf=>by omega
 | n,j,f+1,σ,R',hl,h,hS,hj,haj,hs,hlt,hf=>by
   rw[De,Cy]
   by_cases q:j<c
   ·obtain ⟨n,rfl⟩:∃ n',n=n'+1:=⟨n-1,by omega⟩
    obtain ⟨σ1,R1,e1,g1,d1,o1⟩:=cS k (a:=a) hln (j-a) j (k+1) σ R' hl h hS (by omega) (by omega) hs (fun x a1 a2=>hlt x j a1 a2 (Nat.le_refl _) q) (by omega)
    have w1:Ac ((j:Int)+1)=((j+1:Nat):Int):=Ad (by unfold Bd; omega)
    obtain ⟨σ2,R2,e2,g2,d2,o2⟩:=cQ k hk (a:=a) hln hc n (j+1) f σ1 R1 (d1.len.trans hl) g1 (hS.of d1.set d1.out) (by omega) (by omega) d1.srt (fun x y a1 a2 a3 a4=>by
     rw[d1.out y (by omega)]
     by_cases q2:x<j+1
     ·obtain ⟨z,z1,z2,hz⟩:=(d1.set (gd R1 x)).1 ⟨x,a1,q2,rfl⟩
      rw[← hz]; exact hlt z y z1 (by omega) (by omega) a4
     ·rw[d1.out x (by omega)]; exact hlt x y a1 a2 (by omega) a4) (by omega)
    refine ⟨σ2,R2, ?_,g2,⟨d2.len.trans d1.len, ?_, ?_, ?_⟩,o1.trans o2⟩
    ·simp only[decide_eq_true (show (j:Int)<(c:Int) by omega),cond_true,e1,Option.bind_some,if_true,w1,e2]
    ·rw[show max j c=max (j+1) c from by omega]; exact d2.srt
    ·rw[show max j c=max (j+1) c from by omega]
     intro e
     rw[d2.set e]
     constructor
     ·rintro ⟨x,a1,a2,rfl⟩
      by_cases q2:x<j+1
      ·obtain ⟨z,z1,z2,hz⟩:=(d1.set (gd R1 x)).1 ⟨x,a1,q2,rfl⟩
       exact ⟨z,z1,by omega,hz⟩
      ·exact ⟨x,a1,a2,(d1.out x (by omega)).symm⟩
     ·rintro ⟨x,a1,a2,rfl⟩
      by_cases q2:x<j+1
      ·obtain ⟨z,z1,z2,hz⟩:=(d1.set (gd R' x)).2 ⟨x,a1,q2,rfl⟩
       exact ⟨z,z1,by omega,hz⟩
      ·exact ⟨x,a1,a2,d1.out x (by omega)⟩
    ·intro x hx
     rw[d2.out x (by omega),d1.out x (by omega)]
   ·rw[show max j c=j from by omega]
    refine ⟨σ,R', ?_,h,⟨rfl,hs,fun e=>Iff.rfl,fun x _=>rfl⟩,Fh.refl _⟩
    simp only[decide_eq_false (show ¬ (j:Int)<(c:Int) by omega),cond_false]
theorem Sy.one (a:Nat):Sy R a (a+1):=fun x y h1 h2 h3=>by omega
theorem nc (k:Nat) (hk:5000≤k) {a c:Nat} (hln:R.length≤3000) (hac:a≤c) (hc:c≤R.length) (σ:Aa) (R':List (Nat × Nat)) (hl:R'.length=R.length) (h:Gw σ b R') (hS:bS R') (hI:rD R' a c):
  ∃ σ' R'',A7 (k+2) (some ⟨b,0,none⟩,R.length,R.length) (a:Int) (c:Int) PX σ=some (.tuple #[],σ')∧Gw σ' b R''∧Zi R' R'' a c∧Fh b σ σ':=by
 obtain ⟨σ1,R1,e1,g1,d1,o1⟩:=cQ k hk (a:=a) hln hc (c-a) (a+1) (k+1) σ R' hl h hS (by omega) (by omega) (Sy.one a) (fun x y a1 a2 a3 a4=>hI x y a1 a2 a4) (by omega)
 have w1:Ac ((a:Int)+1)=((a+1:Nat):Int):=Ad (by unfold Bd; omega)
 refine ⟨σ1,R1, ?_,g1, ?_,o1⟩
 ·rw[DQ,CN]
  simp only[w1,e1,Option.bind_some,if_true]
 ·by_cases q:a<c
  ·rw[show max (a+1) c=c from by omega] at d1; exact d1
  ·obtain rfl:a=c:=by omega
   rw[show max (a+1) a=a+1 from by omega] at d1
   have e0:gd R1 a=gd R' a:=by
    obtain ⟨z,z1,z2,hz⟩:=(d1.set (gd R1 a)).1 ⟨a,Nat.le_refl _,by omega,rfl⟩
    obtain rfl:z=a:=by omega
    exact hz.symm
   exact ⟨d1.len,fun x y _ _ _=>by omega,fun e=>⟨fun ⟨x,_,_,_⟩=>by omega,fun ⟨x,_,_,_⟩=>by omega⟩,fun x _=>by
    by_cases q2:x=a
    ·rw[q2]; exact e0
    ·exact d1.out x (by omega)⟩
theorem dB (k:Nat) (hln:R.length≤3000) {p q c:Nat} (hpq:p+c≤q) (hq:q+c≤R.length):∀ (n x f:Nat) (σ:Aa) (R':List (Nat × Nat)),R'.length=R.length→Gw σ b R'→x+n=c→n<f →
  ∃ σ' R'',B1 k f (some ⟨b,0,none⟩) R.length R.length (p:Int) (q:Int) (c:Int) (x:Int) σ=some (.exit 0,[],σ')∧Gw σ' b R''∧R''.length=R.length∧(∀ z,gd R'' z=if p+x≤z∧z<p+c then gd R' (z+(q-p)) else if q+x≤z∧z<q+c then gd R' (z-(q-p)) else gd R' z)∧Fh b σ σ'
 | n,x,0,σ,R',hl,h,hx,hf=>by omega
 | 0,x,f+1,σ,R',hl,h,hx,hf=>by
   rw[Gb,E3]
   refine ⟨σ,R', ?_,h,hl,fun z=>by rw[if_neg (by omega),if_neg (by omega)],Fh.refl _⟩
   simp only[decide_eq_false (show ¬ (x:Int)<(c:Int) by omega),cond_false]
 | n+1,x,f+1,σ,R',hl,h,hx,hf=>by
   have w1:Ac ((x:Int)+1)=((x+1:Nat):Int):=Ad (by unfold Bd; omega)
   have w2:Ac ((q:Int)+(x:Int))=((q+x:Nat):Int):=Ad (by unfold Bd; omega)
   have w3:Ac ((p:Int)+(x:Int))=((p+x:Nat):Int):=Ad (by unfold Bd; omega)
   have q1:(0≤((q+x:Nat):Int)∧((q+x:Nat):Int)<((R.length:Nat):Int))=True:=eq_true (by omega)
   have q2:(0≤((p+x:Nat):Int)∧((p+x:Nat):Int)<((R.length:Nat):Int))=True:=eq_true (by omega)
   obtain ⟨l0,l1⟩:=h.ld (x:=q+x) (by omega)
   obtain ⟨l2,l3⟩:=h.ld (x:=p+x) (by omega)
   obtain ⟨σ1,σ2,e1,e2,g2,o2⟩:=h.sw (x:=p+x) (y:=q+x) (by omega) (by omega)
   obtain ⟨σ3,R3,e3,g3,l3',d3,o3⟩:=dB k hln hpq hq n (x+1) f σ2 (sw R' (p+x) (q+x)) (by rw[bF]; exact hl) g2 (by omega) (by omega)
   refine ⟨σ3,R3, ?_,g3,l3',fun z=>?_,o2.trans o3⟩
   ·rw[Gb,E3]
    simp only[decide_eq_true (show (x:Int)<(c:Int) by omega),cond_true,w1,w2,w3,q1,q2,if_true,Option.bind_some,Int.toNat_natCast,Nat.zero_add,l0,l1,l2,l3,e1,e2,e3]
   ·rw[d3 z]
    have gs:∀ z,gd (sw R' (p+x) (q+x)) z=if z=q+x then gd R' (p+x) else if z=p+x then gd R' (q+x) else gd R' z:=fun z=>gj _ _ _ _ (by omega) (by omega)
    by_cases c1:p+(x+1)≤z∧z<p+c
    ·rw[if_pos c1,if_pos (by omega),gs,if_neg (by omega),if_neg (by omega)]
    ·rw[if_neg c1]
     by_cases c2:q+(x+1)≤z∧z<q+c
     ·rw[if_pos c2,if_neg (by omega),if_pos (by omega),gs,if_neg (by omega),if_neg (by omega)]
     ·rw[if_neg c2,gs]
      by_cases c3:z=q+x
      ·rw[if_pos c3,if_neg (by omega),if_pos (by omega)]; congr 1; omega
      ·rw[if_neg c3]
       by_cases c4:z=p+x
       ·rw[if_pos c4,if_pos (by omega)]; congr 1; omega
       ·rw[if_neg c4,if_neg (by omega),if_neg (by omega)]
theorem jC (k:Nat) (hk:5000≤k) (hln:R.length≤3000) {p q c:Nat} (hpq:p+c≤q) (hq:q+c≤R.length) (σ:Aa) (R':List (Nat × Nat)) (hl:R'.length=R.length) (h:Gw σ b R') (v:Value):
  ∃ σ' R'',Bu (k+1) (some ⟨b,0,none⟩,R.length,R.length) (p:Int) (q:Int) (c:Int) v σ=some (.tuple #[],σ')∧Gw σ' b R''∧R''.length=R.length∧(∀ z,gd R'' z=if p≤z∧z<p+c then gd R' (z+(q-p)) else if q≤z∧z<q+c then gd R' (z-(q-p)) else gd R' z)∧Fh b σ σ':=by
 obtain ⟨σ1,R1,e1,g1,l1,d1,o1⟩:=dB k hln hpq hq c 0 k σ R' hl h (by omega) (by omega)
 refine ⟨σ1,R1, ?_,g1,l1,d1,o1⟩
 rw[show ((0:Nat):Int)=0 from rfl] at e1
 rw[Lm,Hj]
 simp only[e1,Option.bind_some,if_true]
def fk (R R':List (Nat × Nat)) (s m e:Nat):Prop:=∀ z,gd R' z=if z<s∨e≤z then gd R z else if z<s+(e-m) then gd R (z+(m-s)) else gd R (z-(e-m))
theorem Ym (k:Nat) (hk:5000≤k) (hln:R.length≤3000) {m:Nat} (v:Value):∀ (n i j f:Nat) (σ:Aa) (R':List (Nat × Nat)),R'.length=R.length→Gw σ b R'→1≤i→1≤j→i≤m→m+j≤R.length→i+j≤n→n<f →
  ∃ (σ':Aa) (R'':List (Nat × Nat)) (r:Nat),BM (k+1) f (some ⟨b,0,none⟩) R.length R.length (m:Int) v (i:Int) (j:Int) σ=some (.exit 0,[.int .i64 (r:Int)],σ')∧Gw σ' b R''∧R''.length=R.length∧1≤r∧r≤m∧m+r≤R.length∧(∀ R3,fk R'' R3 (m-r) m (m+r)→fk R' R3 (m-i) m (m+j))∧Fh b σ σ'
 | n,i,j,0,σ,R',hl,h,hi,hj,him,hjm,hn,hf=>by omega
 | n,i,j,f+1,σ,R',hl,h,hi,hj,him,hjm,hn,hf=>by
   rw[Ll,Hi]
   by_cases q:i=j
   ·subst q
    refine ⟨σ,R',i, ?_,h,hl,hi,him,hjm,fun R3 h3=>h3,Fh.refl _⟩
    simp only[bne_self_eq_false,cond_false]
   ·simp only[show ((i:Int) != (j:Int))=true from by simp; omega,cond_true]
    by_cases q2:i>j
    ·have w1:Ac ((m:Int)-(i:Int))=((m-i:Nat):Int):=by rw[Ad (by unfold Bd; omega)]; omega
     have w2:Ac ((i:Int)-(j:Int))=((i-j:Nat):Int):=by rw[Ad (by unfold Bd; omega)]; omega
     obtain ⟨σ1,R1,e1,g1,l1,d1,o1⟩:=jC k hk hln (p:=m-i) (q:=m) (c:=j) (by omega) (by omega) σ R' hl h v
     obtain ⟨σ2,R2,r,e2,g2,l2,r1,r2,r3,t2,o2⟩:=Ym k hk hln v (n-1) (i-j) j f σ1 R1 l1 g1 (by omega) hj (by omega) hjm (by omega) (by omega)
     refine ⟨σ2,R2,r, ?_,g2,l2,r1,r2,r3,fun R3 h3 z=>?_,o1.trans o2⟩
     ·simp only[decide_eq_true (show (i:Int)>(j:Int) by omega),cond_true,w1,w2,e1,Option.bind_some,Jq,if_true,GF,e2]
     ·rw[t2 R3 h3 z]
      by_cases c1:z<m-i∨m+j≤z
      ·rw[if_pos (by omega),if_pos c1,d1,if_neg (by omega),if_neg (by omega)]
      ·rw[if_neg c1]
       by_cases c2:z<m-i+(m+j-m)
       ·rw[if_pos (by omega),if_pos c2,d1,if_pos (by omega)]
       ·rw[if_neg c2,if_neg (by omega)]
        by_cases c3:z<m-(i-j)+(m+j-m)
        ·rw[if_pos c3,d1,if_neg (by omega),if_pos (by omega)]; congr 1; omega
        ·rw[if_neg c3,d1,if_neg (by omega),if_neg (by omega)]
    ·have w1:Ac ((m:Int)-(i:Int))=((m-i:Nat):Int):=by rw[Ad (by unfold Bd; omega)]; omega
     have w2:Ac ((j:Int)-(i:Int))=((j-i:Nat):Int):=by rw[Ad (by unfold Bd; omega)]; omega
     have w3:Ac (Ac ((m:Int)+(j:Int))-(i:Int))=((m+j-i:Nat):Int):=by rw[Ad (show Bd ((m:Int)+(j:Int)) by unfold Bd; omega),Ad (by unfold Bd; omega)]; omega
     obtain ⟨σ1,R1,e1,g1,l1,d1,o1⟩:=jC k hk hln (p:=m-i) (q:=m+j-i) (c:=i) (by omega) (by omega) σ R' hl h v
     obtain ⟨σ2,R2,r,e2,g2,l2,r1,r2,r3,t2,o2⟩:=Ym k hk hln v (n-1) i (j-i) f σ1 R1 l1 g1 hi (by omega) him (by omega) (by omega) (by omega)
     refine ⟨σ2,R2,r, ?_,g2,l2,r1,r2,r3,fun R3 h3 z=>?_,o1.trans o2⟩
     ·simp only[decide_eq_false (show ¬ (i:Int)>(j:Int) by omega),cond_false,w1,w2,w3,e1,Option.bind_some,Jq,if_true,GF,e2]
     ·rw[t2 R3 h3 z]
      by_cases c1:z<m-i∨m+j≤z
      ·rw[if_pos (by omega),if_pos c1,d1,if_neg (by omega),if_neg (by omega)]
      ·rw[if_neg c1]
       by_cases c2:z<m-i+(m+j-m)
       ·rw[if_pos c2]
        by_cases c3:z<m-i+(m+(j-i)-m)
        ·rw[if_neg (by omega),if_pos c3,d1]
         by_cases c4:z+(m-(m-i))<m+j-i
         ·rw[if_neg (by omega),if_neg (by omega)]
         ·rw[if_neg (by omega),if_pos (by omega)]; congr 1; omega
        ·by_cases c5:m+(j-i)≤z
         ·exfalso; omega
         ·rw[if_neg (by omega),if_neg c3,d1,if_pos (by omega)]; congr 1; omega
       ·rw[if_neg c2]
        by_cases c3:m+(j-i)≤z
        ·rw[if_pos (by omega),d1,if_neg (by omega),if_pos (by omega)]; congr 1; omega
        ·exfalso; omega
theorem lW (k:Nat) (hk:10000≤k) (hln:R.length≤3000) {s m e:Nat} (hsm:s<m) (hme:m<e) (he:e≤R.length) (σ:Aa) (R':List (Nat × Nat)) (hl:R'.length=R.length) (h:Gw σ b R') (v:Value):
  ∃ σ' R'',Cj (k+2) (some ⟨b,0,none⟩,R.length,R.length) (s:Int) (m:Int) (e:Int) v σ=some (.tuple #[],σ')∧Gw σ' b R''∧R''.length=R.length∧fk R' R'' s m e∧Fh b σ σ':=by
 have w1:Ac ((m:Int)-(s:Int))=((m-s:Nat):Int):=by rw[Ad (by unfold Bd; omega)]; omega
 have w2:Ac ((e:Int)-(m:Int))=((e-m:Nat):Int):=by rw[Ad (by unfold Bd; omega)]; omega
 obtain ⟨σ1,R1,r,e1,g1,l1,r1,r2,r3,t1,o1⟩:=Ym k (by omega) hln (m:=m) v (e-s) (m-s) (e-m) (k+1) σ R' hl h (by omega) (by omega) (by omega) (by omega) (by omega) (by omega)
 have w3:Ac ((m:Int)-(r:Int))=((m-r:Nat):Int):=by rw[Ad (by unfold Bd; omega)]; omega
 obtain ⟨σ2,R2,e2,g2,l2,d2,o2⟩:=jC k (by omega) hln (p:=m-r) (q:=m) (c:=r) (by omega) (by omega) σ1 R1 l1 g1 v
 refine ⟨σ2,R2, ?_,g2,l2, ?_,o1.trans o2⟩
 ·rw[MI,I0]
  simp only[w1,w2,e1,Option.bind_some,if_true,D0,w3,e2,Jq]
 ·have:=t1 R2 (fun z=>by
   rw[d2 z]
   by_cases c1:z<m-r∨m+r≤z
   ·rw[if_pos c1,if_neg (by omega),if_neg (by omega)]
   ·rw[if_neg c1]
    by_cases c2:z<m
    ·rw[if_pos (by omega),if_pos (by omega)]
    ·rw[if_neg (by omega),if_pos (by omega),if_neg (by omega)]; congr 1; omega)
  rw[show m-(m-s)=s from by omega,show m+(e-m)=e from by omega] at this
  exact this
end Go.Proofs.YtlaplcglpnlieaaGreat
end
