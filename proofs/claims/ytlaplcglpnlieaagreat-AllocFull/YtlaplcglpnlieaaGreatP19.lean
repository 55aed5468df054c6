/- The allocator's blocks and gaps.; The policies first, next, lines.; Holes; the policy lines.; A list of gaps in memory, swapped: insertion sort, swapR -/
import Derived.Test.YtlaplcglpnlieaaGreatP18
set_option linter.unusedVariables false
set_option linter.unusedSimpArgs false
set_option linter.unusedSectionVars false
section
namespace Go.Proofs.YtlaplcglpnlieaaGreat
open Go Go.AX
noncomputable local instance vu:AF:=Au
local instance ui:Kn:=⟨true⟩
variable {σ:Aa} {i:Cs} {m:HM} {ab:Nat} {a:AS}
def Bg (m:HM) (s:Int) (n:Nat):List Nat:=(List.range n).filter fun b=>decide ((m.bls.getD b (0,0)).1=1∧(m.bls.getD b (0,0)).2=s)
def UN (l:List Nat):List Int:=l.map fun b:Nat=>(b:Int)
theorem Nk (m:HM) (s:Int) (n:Nat):Bg m s (n+1)=Bg m s n++if (m.bls.getD n (0,0)).1=1∧(m.bls.getD n (0,0)).2=s then [n] else []:=by
 unfold Bg
 rw[List.range_succ,List.filter_append]
 congr 1
 by_cases q:(m.bls.getD n (0,0)).1=1∧(m.bls.getD n (0,0)).2=s
 ·rw[if_pos q,List.filter_cons,if_pos (decide_eq_true q)]; rfl
 ·rw[if_neg q,List.filter_cons,if_neg (by rw[decide_eq_false q]; decide)]; rfl
theorem IY (m:HM) (s:Int) (n:Nat):(Bg m s n).length≤n:=by
 have:=List.length_filter_le (fun b=>decide ((m.bls.getD b (0,0)).1=1∧(m.bls.getD b (0,0)).2=s)) (List.range n)
 rw[List.length_range] at this; exact this
theorem OW {m:HM} {s:Int} {n b:Nat}:b ∈ Bg m s n↔b<n∧(m.bls.getD b (0,0)).1=1∧(m.bls.getD b (0,0)).2=s:=by
 unfold Bg; simp[List.mem_filter]
theorem kW {α:Type} (x u y v:Int) (s:α):(bif x == u then some (y == v,s) else some (false,s))=some (decide (x=u∧y=v),s):=by
 by_cases q:x=u
 ·subst q
  by_cases q2:y=v
  ·subst q2; simp
  ·simp[q2]
 ·rw[show (x == u)=false from by simpa using q]; simp[q]
theorem SV (k:Nat) (h:Ah σ i m) (hA:Cj σ ab i a):∀ (n x f:Nat) (τ:Aa) (s:E8),x+n=m.bls.length→Du σ.length (σ++τ) s (UN (Bg m a.s x))→n<f →
  ∃ τ' s',Bw (k+4) f (D8 ab) ((m.bls.length:Nat):Int) s (x:Int) (σ++τ)=some (.exit 0,[.slice s'.1 s'.2.1 s'.2.2],σ++τ')∧Du σ.length (σ++τ') s' (UN (Bg m a.s m.bls.length))
 | n,x,0,τ,s,hx,hs,hf=>by omega
 | 0,x,f+1,τ,s,hx,hs,hf=>by
   obtain rfl:x=m.bls.length:=by omega
   rw[FQ,Fg]
   exact ⟨τ,s,by simp only[decide_eq_false (Int.lt_irrefl _),cond_false],hs⟩
 | n+1,x,f+1,τ,s,hx,hs,hf=>by
   have hnt:=h.nt
   have hxl:x<m.bls.length:=by omega
   have g:=h.app τ
   have A:=hA.app τ
   have w1:Ac ((x:Int)+1)=((x+1:Nat):Int):=Ad (by unfold AW; omega)
   have e1:BX (k+4) (DW i) (x:Int) (σ++τ)=_:=WX (k+1) g hxl
   have e2:B7 (k+4) (DW i) (x:Int) (σ++τ)=_:=aa (k+1) g hxl
   rw[FQ,Fg]
   simp only[decide_eq_true (show (x:Int)<((m.bls.length:Nat):Int) by omega),cond_true,Option.bind_some,Nat.add_zero,Nat.zero_add,A.XO,e1,e2,Am,A.l1,w1]
   rw[kW]
   by_cases q:(m.bls.getD x (0,0)).1=1∧(m.bls.getD x (0,0)).2=a.s
   ·obtain ⟨s1,τ1,e3,i1⟩:=Wz σ τ s _ (x:Int) (by have:=IY m a.s x; simp[UN]; omega) hs
    have e3':Bv P B9 (s.1,s.2.1,s.2.2) (some ⟨(σ++τ).length,0,none⟩,1,1) (σ++τ++[.cells [.int .i64 (x:Int)] B9 true])=_:=e3
    obtain ⟨τ2,s2,e4,i2⟩:=SV k h hA n (x+1) f τ1 s1 (by omega) (by rw[Nk,if_pos q]; simpa [UN] using i1) (by omega)
    refine ⟨τ2,s2, ?_,i2⟩
    simp only[decide_eq_true q,Option.bind_some,cond_true,Ap,e3',if_true,F7]
    exact e4
   ·obtain ⟨τ2,s2,e4,i2⟩:=SV k h hA n (x+1) f τ s (by omega) (by rw[Nk,if_neg q,List.append_nil]; exact hs) (by omega)
    refine ⟨τ2,s2, ?_,i2⟩
    simp only[decide_eq_false q,Option.bind_some,cond_false,if_true,F7]
    exact e4
theorem dd (k:Nat) (hk:100≤k) (h:Ah σ i m) (hA:Cj σ ab i a):
  ∃ τ s,Bq (k+5) (D8 ab) σ=some (.slice s.1 s.2.1 s.2.2,σ++τ)∧Du σ.length (σ++τ) s (UN (Bg m a.s m.bls.length)):=by
 have hnt:=h.nt
 obtain ⟨τ,s,e,hs⟩:=SV k h hA m.bls.length 0 (k+4) [] (none,0,0) (by omega) (.inl ⟨rfl,rfl⟩) (by omega)
 rw[List.append_nil] at e
 refine ⟨τ,s, ?_,hs⟩
 have e':Bw (k+4) (k+4) (D8 ab) ((m.bls.length:Nat):Int) (none,0,0) 0 σ=_:=e
 have e0:Az (k+4) (DW i) σ=_:=GR (k+2) h
 rw[JW,Ia]
 simp only[Option.bind_some,Nat.add_zero,hA.XO,e0,Am,e',if_true,F7]
def J1 (f w:Nat) (g:Nat × Nat):Option (Nat × Nat):=if w≤g.1+g.2-max f g.1 then some (max f g.1,g.1+g.2-max f g.1) else none
theorem tp (μ:Aa) (T:TypeId) (p q x:Value):G0 (μ++[.cells [p,q] T true]) μ.length 0 x=some (μ++[.cells [x,q] T true]):=by
 simp[G0]
theorem tq (μ:Aa) (T:TypeId) (p q x:Value):G0 (μ++[.cells [p,q] T true]) μ.length 1 x=some (μ++[.cells [p,x] T true]):=by
 simp[G0]
theorem pS (g:Nat × Nat) (fr w:Nat) (hfr:fr≤10000) (hw:1≤w) (hg:g.1+g.2≤10000) (μ:Aa):
  ∃ st sz:Int,((bif decide (Ac ((fr:Int)-(g.1:Int))>0) then ((G0 (μ++[.cells [.int .i64 (g.1:Int),.int .i64 (g.2:Int)] Af true]) μ.length 0 (.int .i64 (fr:Int))).bind fun s17=>(G0 s17 μ.length 1 (.int .i64 (Ac ((g.2:Int)-Ac ((fr:Int)-(g.1:Int)))))).bind fun s18=>some (.normal,[],s18)) else (some (.normal,[],μ++[.cells [.int .i64 (g.1:Int),.int .i64 (g.2:Int)] Af true])):Option Ay) =
   some (.normal,[],μ++[.cells [.int .i64 st,.int .i64 sz] Af true]))∧(match J1 fr w g with | some g'=>sz≥(w:Int)∧st=(g'.1:Int)∧sz=(g'.2:Int) | none=>¬ sz≥(w:Int)):=by
 have w1:Ac ((fr:Int)-(g.1:Int))=(fr:Int)-(g.1:Int):=Ad (by unfold AW; omega)
 have w2:Ac ((g.2:Int)-((fr:Int)-(g.1:Int)))=(g.2:Int)-((fr:Int)-(g.1:Int)):=Ad (by unfold AW; omega)
 rw[w1]
 unfold J1
 by_cases q:(fr:Int)-(g.1:Int)>0
 ·refine ⟨(fr:Int),(g.2:Int)-((fr:Int)-(g.1:Int)), ?_, ?_⟩
  ·rw[decide_eq_true q]
   simp only[cond_true,w1,w2,Option.bind_some,tp,tq]
  ·rw[Nat.max_eq_left (by omega)]
   by_cases q2:w≤g.1+g.2-fr
   ·rw[if_pos q2]; dsimp only; omega
   ·rw[if_neg q2]; dsimp only; omega
 ·refine ⟨(g.1:Int),(g.2:Int), ?_, ?_⟩
  ·rw[decide_eq_false q]; rfl
  ·rw[Nat.max_eq_right (by omega)]
   by_cases q2:w≤g.1+g.2-g.1
   ·rw[if_pos q2]; dsimp only; omega
   ·rw[if_neg q2]; dsimp only; omega
def sg (s o:E8):Prop:=∀ a,o.1=some a → ∀ b,s.1=some b→a.block≠b.block
theorem EW.sl {E:TypeId} {z n:Nat} {row:List Value} {σ':Aa} {s o o':E8} (g:EW σ o σ' o') (h:BQ E z σ s n row) (ha:sg s o):BQ E z σ' s n row∧sg s o':=by
 refine ⟨h.CT fun b hb=>?_,fun x hx b hb=>?_⟩
 ·exact g.same b.block (h.lt b hb) fun x hx=>ha x hx b hb
 ·rcases g.new with rfl | hw
  ·exact ha x hx b hb
  ·have:=hw x hx; have:=h.lt b hb; omega
theorem Wy (k:Nat) {fr w:Nat} (hfr:fr≤10000) (hw:1≤w∧w≤1000) {R:List (Nat × Nat)} (hR:R.length≤100) (hRb:∀ g ∈ R,g.1+g.2≤10000) (s:E8):∀ (n x f:Nat) (μ:Aa) (o:E8) (R0:List (Nat × Nat)),BQ Af 2 μ s R.length (AL R)→BQ Af 2 μ o R0.length (AL R0)→sg s o→R0.length+n≤100000→x+n=R.length→n<f →
  ∃ μ' o',BJ k f (fr:Int) (w:Int) s.1 R.length s.2.2 ((R.length:Nat):Int) o (x:Int) μ=some (.exit 2,[.slice o'.1 o'.2.1 o'.2.2],μ')∧EW μ o μ' o'∧BQ Af 2 μ' o' (R0++(R.drop x).filterMap (J1 fr w)).length (AL (R0++(R.drop x).filterMap (J1 fr w)))
 | n,x,0,μ,o,R0,hs,ho,hd,hl,hx,hf=>by omega
 | 0,x,f+1,μ,o,R0,hs,ho,hd,hl,hx,hf=>by
   rw[G4,FD]
   refine ⟨μ,o,by simp only[decide_eq_false (show ¬ (x:Int)<((R.length:Nat):Int) by omega),cond_false],EW.refl _ _, ?_⟩
   rw[List.drop_of_length_le (by omega)]
   simpa using ho
 | n+1,x,f+1,μ,o,R0,hs,ho,hd,hl,hx,hf=>by
   have hxl:x<R.length:=by omega
   obtain ⟨b,e0,l0,l1⟩:=RJ hs hxl
   have eg:R.getD x (0,0)=R[x]:=by rw[List.getD_eq_getElem?_getD,List.getElem?_eq_getElem hxl]; rfl
   rw[eg] at l0 l1
   have qx:(0≤(x:Int)∧(x:Int)<((R.length:Nat):Int))=True:=eq_true (by omega)
   have w1:Ac ((x:Int)+1)=((x+1:Nat):Int):=Ad (by unfold AW; omega)
   obtain ⟨st,sz,eb,hc⟩:=pS R[x] fr w hfr hw.1 (hRb _ (List.getElem_mem _)) μ
   have ea:∀ (st sz:Int),Ai .i64 (μ++[.cells [.int .i64 st,.int .i64 sz] Af true]) μ.length 0=some st∧Ai .i64 (μ++[.cells [.int .i64 st,.int .i64 sz] Af true]) μ.length 1=some sz:=fun st sz=>lu μ Af st sz
   have hdr:R.drop x=R[x]::R.drop (x+1):=List.drop_eq_getElem_cons hxl
   rw[G4,FD]
   simp only[decide_eq_true (show (x:Int)<((R.length:Nat):Int) by omega),cond_true,qx,if_true,e0,Option.bind_some,Int.toNat_natCast,Nat.zero_add,Nat.add_zero,l0,l1,Ap,q9,(ea _ _).1,eb,(ea _ _).2,w1]
   have hg1:BQ Af 2 (μ++[.cells [.int .i64 st,.int .i64 sz] Af true]) s R.length (AL R):=hs.app _
   cases hcg:J1 fr w R[x] with
   | none=>
     rw[hcg] at hc
     simp only[decide_eq_false (show ¬ sz≥(w:Int) from hc),cond_false,Option.bind_some,if_true,F7]
     obtain ⟨μ',o',e2,g2,h2⟩:=Wy k hfr hw hR hRb s n (x+1) f (μ++[.cells [.int .i64 st,.int .i64 sz] Af true]) o R0 hg1 (ho.app _) hd (by omega) (by omega) (by omega)
     rw[e0] at e2
     refine ⟨μ',o',e2,(EW.app _ _ _).trans g2, ?_⟩
     rw[hdr,List.filterMap_cons_none hcg]; exact h2
   | some g=>
     rw[hcg] at hc
     obtain ⟨c1,rfl,rfl⟩:=hc
     simp only[decide_eq_true (show ((g.2:Nat):Int)≥(w:Int) from c1),cond_true,Option.bind_some]
     obtain ⟨o1,μ1,e1,g1,h1⟩:=bJ cq au c9 rfl rfl (by decide) (by decide) (by decide) (μ++[.cells [.int .i64 (g.1:Int),.int .i64 (g.2:Int)] Af true]) o R0.length (AL R0) 1 1 [.int .i64 (g.1:Int),.int .i64 (g.2:Int)] Af (by omega) (by decide) rfl (ho.app _)
     have e1':Bv P Af (o.1,o.2.1,o.2.2) (some ⟨(μ++[Bi.cells [.int .i64 (g.1:Int),.int .i64 (g.2:Int)] Af true]).length,0,none⟩,1,1) (μ++[Bi.cells [.int .i64 (g.1:Int),.int .i64 (g.2:Int)] Af true]++[Bi.cells [.int .i64 (g.1:Int),.int .i64 (g.2:Int)] Af true])=_:=e1
     have gA:EW μ o μ1 o1:=(EW.app _ _ _).trans g1
     obtain ⟨s1,d1⟩:=gA.sl hs hd
     rw[show AL R0++[Value.int .i64 (g.1:Int),.int .i64 (g.2:Int)]=AL (R0++[g]) from by rw[Jv]; rfl,show R0.length+1=(R0++[g]).length from by simp] at h1
     obtain ⟨μ',o',e2,g2,h2⟩:=Wy k hfr hw hR hRb s n (x+1) f μ1 o1 (R0++[g]) s1 h1 d1 (by simp; omega) (by omega) (by omega)
     rw[e0] at e2
     refine ⟨μ',o', ?_,gA.trans g2, ?_⟩
     ·simp only[e1',Option.bind_some,if_true,F7]
      exact e2
     ·rw[hdr,List.filterMap_cons_some hcg]; simpa using h2
def Di (m:HM) (l:List Nat):List (Nat × Nat):=l.flatMap fun b:Nat=>EN m (b:Int)
def Bx (m:HM) (s:Int) (f w:Nat):List (Nat × Nat):=(Di m (Bg m s m.bls.length)).filterMap (J1 f w)
theorem lj {a e M:Nat} (hM:e≤M):∀ g ∈ Ip a e,g.1+g.2≤M:=by
 intro g hg
 unfold Ip at hg
 split at hg
 ·simp at hg; subst hg; dsimp only; omega
 ·simp at hg
theorem dx (hnt:m.bls.length≤64) (b:Int):∀ g ∈ EN m b,g.1+g.2≤4096:=by
 have aux:∀ (L:List Nat) (a:Nat),(∀ j ∈ L,2*j≤4096) → ∀ g ∈ (Eb m L a).1,g.1+g.2≤4096:=by
  intro L
  induction L with
  | nil=>intro a _ g hg; simp[Eb] at hg
  | cons j L ih=>
    intro a hL g hg
    rw[Eb] at hg
    rcases List.mem_append.1 hg with h | h
    ·exact lj (hL j (by simp)) g h
    ·exact ih _ (fun j hj=>hL j (by simp[hj])) g h
 intro g hg
 unfold EN at hg
 split at hg
 ·rename_i hst
  obtain ⟨n,rfl,hn,_⟩:=YE hst
  rw[Int.toNat_natCast] at hg
  unfold YW at hg
  rcases List.mem_append.1 hg with h | h
  ·exact aux _ _ (fun j hj=>by have:=Hj.1 hj; omega) g h
  ·exact lj (by omega) g h
 ·simp at hg
theorem Xo (hnt:m.bls.length≤64) (b:Int):∀ g ∈ EN m b,g.1+g.2≤10000:=fun g hg=>by have:=dx hnt b g hg; omega
theorem dL {L:List Nat} {x:Nat} (hx:x<L.length):(UN L).getD x 0=((L[x]:Nat):Int):=by
 unfold UN
 rw[List.getD_eq_getElem?_getD,List.getElem?_map,List.getElem?_eq_getElem hx]; rfl
theorem aX (k:Nat) (hk:5000≤k) (hI:Inv m) (h0:B0 m) {fr w:Nat} (hfr:fr≤10000) (hw:1≤w∧w≤1000) {L:List Nat} (hL:∀ b ∈ L,b<m.bls.length) (hLl:L.length≤64) (s:E8):∀ (n x f:Nat) (μ:Aa) (o:E8) (R0:List (Nat × Nat)),Ah μ i m→Cj μ ab i a→BQ B9 1 μ s (UN L).length (Df (UN L))→BQ Af 2 μ o R0.length (AL R0)→sg s o→sj i o→(∀ x,o.1=some x→x.block≠ab)→R0.length+33*n≤50000→x+n=L.length→n<f →
  ∃ μ' o',BI (k+7) f (D8 ab) (fr:Int) (w:Int) s.1 L.length s.2.2 ((L.length:Nat):Int) o (x:Int) μ=some (.exit 0,[.slice o'.1 o'.2.1 o'.2.2],μ')∧EW μ o μ' o'∧BQ Af 2 μ' o' (R0++(Di m (L.drop x)).filterMap (J1 fr w)).length (AL (R0++(Di m (L.drop x)).filterMap (J1 fr w)))
 | n,x,0,μ,o,R0,h,hA,hs,ho,hd,hof,hoa,hl,hx,hf=>by omega
 | 0,x,f+1,μ,o,R0,h,hA,hs,ho,hd,hof,hoa,hl,hx,hf=>by
   rw[G3,FC]
   refine ⟨μ,o,by simp only[decide_eq_false (show ¬ (x:Int)<((L.length:Nat):Int) by omega),cond_false],EW.refl _ _, ?_⟩
   rw[List.drop_of_length_le (by omega)]
   simpa [Di] using ho
 | n+1,x,f+1,μ,o,R0,h,hA,hs,ho,hd,hof,hoa,hl,hx,hf=>by
   have hxl:x<L.length:=by omega
   obtain ⟨b,e0,l0⟩:=nJ hs (show x<(UN L).length by unfold UN; simpa using hxl)
   rw[dL hxl] at l0
   have qx:(0≤(x:Int)∧(x:Int)<((L.length:Nat):Int))=True:=eq_true (by omega)
   have w1:Ac ((x:Int)+1)=((x+1:Nat):Int):=Ad (by unfold AW; omega)
   obtain ⟨τ,s1,e1,h1,lo1⟩:=nu k hk h hI h0 ((L[x]:Nat):Int)
   have hlen:=MJ m ((L[x]:Nat):Int)
   have gA:EW μ o (μ++τ) o:=EW.app _ _ _
   obtain ⟨sl1,_⟩:=gA.sl hs hd
   have d1:sg s1 o:=fun x hx b hb=>by have:=ho.lt x hx; have:=lo1 b hb; omega
   obtain ⟨μ1,o1,e2,g1,h2⟩:=Wy (k+7) hfr hw (R:=EN m ((L[x]:Nat):Int)) (by omega) (Xo h.nt _) s1 (EN m ((L[x]:Nat):Int)).length 0 (k+7) (μ++τ) o R0 h1 (ho.app _) d1 (by omega) (by omega) (by omega)
   rw[List.drop_zero] at h2
   have g2:EW μ o μ1 o1:=gA.trans g1
   obtain ⟨hh1,of1⟩:=g2.heap h hof
   obtain ⟨hA1,oa1⟩:=g2.other hA hoa
   obtain ⟨hs1,d2⟩:=g2.sl hs hd
   have hfl:((EN m ((L[x]:Nat):Int)).filterMap (J1 fr w)).length≤33:=Nat.le_trans (List.length_filterMap_le _ _) hlen
   obtain ⟨μ2,o2,e3,g3,h3⟩:=aX k hk hI h0 hfr hw hL hLl s n (x+1) f μ1 o1 _ hh1 hA1 hs1 h2 d2 of1 oa1 (by rw[List.length_append]; omega) (by omega) (by omega)
   rw[e0] at e3
   refine ⟨μ2,o2, ?_,g2.trans g3, ?_⟩
   ·have e2':BJ (k+7) (k+7) (fr:Int) (w:Int) s1.1 (EN m ((L[x]:Nat):Int)).length s1.2.2 (((EN m ((L[x]:Nat):Int)).length:Nat):Int) (o.1,o.2.1,o.2.2) 0 (μ++τ)=_:=e2
    rw[G3,FC]
    simp only[decide_eq_true (show (x:Int)<((L.length:Nat):Int) by omega),cond_true,qx,if_true,e0,Option.bind_some,Int.toNat_natCast,Nat.zero_add,Nat.add_zero,Nat.mul_one,l0,hA.XO,e1,H7,h1.len,e2',F7,w1]
    exact e3
   ·rw[List.drop_eq_getElem_cons hxl]
    simp only[Di,List.flatMap_cons,List.filterMap_append,List.append_assoc] at h3 ⊢
    exact h3
theorem ZG (k:Nat) (hk:5000≤k) (h:Ah σ i m) (hA:Cj σ ab i a) (hI:Inv m) (h0:B0 m) {fr w:Nat} (hfr:fr≤10000) (hw:1≤w∧w≤1000):
  ∃ τ s,AM (k+8) (D8 ab) (fr:Int) (w:Int) σ=some (.slice s.1 s.2.1 s.2.2,σ++τ)∧BQ Af 2 (σ++τ) s (Bx m a.s fr w).length (AL (Bx m a.s fr w)) ∧ ∀ x,s.1=some x→σ.length≤x.block:=by
 have hnt:=h.nt
 obtain ⟨τ1,s1,e1,h1⟩:=dd (k+2) (by omega) h hA
 have hbl:=IY m a.s m.bls.length
 obtain ⟨μ,o,e2,g2,h2⟩:=aX (ab:=ab) (a:=a) k hk hI h0 hfr hw (L:=Bg m a.s m.bls.length) (fun b hb=>(OW.1 hb).1) (by omega) s1 (Bg m a.s m.bls.length).length 0 (k+7) (σ++τ1) (none,0,0) [] (h.app _) (hA.app _) h1.sl (BQ.nil _ _ _) (fun x hx=>by cases hx) (fun x hx=>by cases hx) (fun x hx=>by cases hx) (by simp; omega) (by omega) (by omega)
 obtain ⟨⟨τ,rfl⟩,hb⟩:=(show EW (σ++τ1) (none,0,0) μ o from g2).behind (fun x hx=>by cases hx)
 refine ⟨τ,o, ?_,by simpa [Bx] using h2,hb⟩
 have e1':Bq (k+7) (D8 ab) σ=_:=e1
 have e2':BI (k+7) (k+7) (D8 ab) (fr:Int) (w:Int) s1.1 (Bg m a.s m.bls.length).length s1.2.2 (((Bg m a.s m.bls.length).length:Nat):Int) (none,0,0) 0 (σ++τ1)=_:=e2
 have hlen:s1.2.1=(Bg m a.s m.bls.length).length:=by rw[h1.len]; simp[UN]
 rw[KZ,Je]
 simp only[e1',Option.bind_some,H7,hlen,e2',if_true,F7]
end Go.Proofs.YtlaplcglpnlieaaGreat
end
section
namespace Go.Proofs.YtlaplcglpnlieaaGreat
open Go Go.AX
noncomputable local instance vv:AF:=Au
local instance uj:Kn:=⟨true⟩
variable {σ:Aa} {i:Cs} {m:HM} {ab:Nat} {a:AS}
def B1 (m:HM) (a:AS) (l:List (Nat × Nat)):PR:=
 match l with
 | g::_=>(((g.1:Int),true),m,a)
 | []=>match Hs m with
   | some b=>((64*(b:Int),true),CN m b a.s,a)
   | none=>((0,false),m,a)
theorem cm (k:Nat) (hk:5000≤k) (h:Ah σ i m) (hA:Cj σ ab i a) (hab:ab ∉ i.l) (ho:a.ok) {sl:E8} {l:List (Nat × Nat)} (hs:BQ Af 2 σ sl l.length (AL l)):
  cD (AO (k+10) (D8 ab) sl σ) σ i ab (B1 m a l):=by
 rw[K6,I9]
 cases l with
 | cons g l=>
   obtain ⟨b,e0,l0,_⟩:=RJ hs (x:=0) (by simp)
   rw[hs.len]
   rw[Nat.zero_mul] at l0
   refine ⟨σ, ?_,h,hA,Co.refl _⟩
   simp only[decide_eq_true (show (((g::l).length:Nat):Int)>0 by simp only[List.length_cons]; omega),cond_true,if_pos (show (0:Int)≤0∧(0:Int)<(((g::l).length:Nat):Int) by simp only[List.length_cons]; omega),e0,Option.bind_some,Int.toNat_zero,Nat.zero_mul,Nat.add_zero,l0,B1]
   rfl
 | nil=>
   obtain ⟨σ1,e1,g1,k1⟩:=ao k hk h hA hab ho.s0
   have hA1:=hA.W7 k1 hab
   rw[hs.len]
   simp only[List.length_nil,decide_eq_false (show ¬ ((0:Nat):Int)>0 by omega),cond_false,e1,Option.bind_some,Zq,List.length_cons,List.head?_cons,List.tail_cons,ZD,As,Ap,q9,Nat.zero_add,Nat.reduceAdd,if_true,(lu _ _ _ _).1]
   unfold Wn Sd at *
   cases hfr:Hs m with
   | none=>
     simp only[hfr] at g1 ⊢
     rw[show B1 m a []=((0,false),m,a) from by simp only[B1,hfr]]
     exact ⟨_,rfl,g1.app _,hA1.app _,(Co.of k1).trans (Co.app _ _)⟩
   | some b=>
     simp only[hfr] at g1 ⊢
     rw[show B1 m a []=((64*(b:Int),true),CN m b a.s,a) from by simp only[B1,hfr]]
     exact ⟨_,rfl,g1.app _,hA1.app _,(Co.of k1).trans (Co.app _ _)⟩
theorem aM (k:Nat) (hk:5000≤k) (h:Ah σ i m) (hA:Cj σ ab i a) (hab:ab ∉ i.l) (ho:a.ok) (hI:Inv m) (h0:B0 m) {w:Nat} (hw:1≤w∧w≤1000):
  cD (CV (k+12) (D8 ab) (w:Int) σ) σ i ab (B1 m a (Bx m a.s 0 w)):=by
 obtain ⟨τ,s,e1,h1,_⟩:=ZG (k+3) (by omega) (h.app [.cells [] IX true]) (hA.app _) hI h0 (fr:=0) (by decide) hw
 obtain ⟨σ2,e2,g2,a2,k2⟩:=cm (k+1) (by omega) ((h.app [.cells [] IX true]).app τ) ((hA.app _).app _) hab ho h1
 refine ⟨σ2, ?_,g2,a2,((Co.app _ _).trans (Co.app _ _)).trans k2⟩
 have e1':AM (k+11) (D8 ab) 0 (w:Int) (σ++[.cells [] IX true])=_:=e1
 have e2':AO (k+11) (D8 ab) (s.1,s.2.1,s.2.2) (σ++[.cells [] IX true]++τ)=_:=e2
 rw[Nm,Li]
 simp only[Ap,e1',Option.bind_some,H7,e2',Tp]
def P8 (m:HM) (a:AS) (w:Nat):PR:=
 if (B1 m a (Bx m a.s a.c.toNat w++Bx m a.s 0 w)).1.2=true then
  ((B1 m a (Bx m a.s a.c.toNat w++Bx m a.s 0 w)).1,(B1 m a (Bx m a.s a.c.toNat w++Bx m a.s 0 w)).2.1,a.put false ((B1 m a (Bx m a.s a.c.toNat w++Bx m a.s 0 w)).1.1+w) a.l)
 else B1 m a (Bx m a.s a.c.toNat w++Bx m a.s 0 w)
theorem Ve (m:HM) (a:AS) (l:List (Nat × Nat)):(B1 m a l).2.2=a:=by
 unfold B1
 split
 ·rfl
 ·split <;> rfl
theorem cj (hl:m.bls.length≤64) {l:List (Nat × Nat)} (hg:∀ g ∈ l,g.1≤10000):0≤(B1 m a l).1.1∧(B1 m a l).1.1≤10000:=by
 unfold B1
 split
 ·have:=hg _ (List.mem_cons_self); dsimp only; omega
 ·split
  ·rename_i b hb
   have:=Hg hb
   dsimp only; omega
  ·dsimp only; omega
theorem pR {f w:Nat} {g g':Nat × Nat} (hf:f≤10000) (hg:g.1+g.2≤10000) (h:J1 f w g=some g'):g'.1≤10000:=by
 unfold J1 at h
 split at h
 ·cases h; dsimp only; omega
 ·cases h
theorem Sq (hl:m.bls.length≤64) {s:Int} {f w:Nat} (hf:f≤10000):∀ g ∈ Bx m s f w,g.1≤10000:=by
 intro g hg
 unfold Bx at hg
 obtain ⟨g0,h0,hc⟩:=List.mem_filterMap.1 hg
 unfold Di at h0
 obtain ⟨b,_,hb⟩:=List.mem_flatMap.1 h0
 exact pR hf (Xo hl _ g0 hb) hc
theorem cP (k:Nat) (hk:5000≤k) (h:Ah σ i m) (hA:Cj σ ab i a) (hab:ab ∉ i.l) (ho:a.ok) (hI:Inv m) (h0:B0 m) {w:Nat} (hw:1≤w∧w≤1000):
  cD (Dx (k+12) (D8 ab) (w:Int) σ) σ i ab (P8 m a w):=by
 have hc:=ho.c0
 have hnt:=h.nt
 obtain ⟨c,hcc⟩:∃ c:Nat,a.c=(c:Int):=⟨a.c.toNat,by omega⟩
 obtain ⟨τ1,s1,e1,h1,lo1⟩:=ZG (k+3) (by omega) (h.app [.cells [] JD true]) (hA.app _) hI h0 (fr:=c) (by omega) hw
 obtain ⟨μ1,hμ1⟩:∃ μ1,σ++[Bi.cells [] JD true]++τ1=μ1:=⟨_,rfl⟩
 rw[hμ1] at e1 h1
 have H1:Ah μ1 i m:=hμ1 ▸ (h.app _).app _
 have A1:Cj μ1 ab i a:=hμ1 ▸ (hA.app _).app _
 have K1:Co i ab σ μ1:=hμ1 ▸ (Co.app _ _).trans (Co.app _ _)
 obtain ⟨τ2,s2,e2,h2,lo2⟩:=ZG (k+3) (by omega) H1 A1 hI h0 (fr:=0) (by decide) hw
 have hlen:∀ f,(Bx m a.s f w).length≤64*33:=by
  intro f
  unfold Bx
  refine Nat.le_trans (List.length_filterMap_le _ _) ?_
  unfold Di
  have hb:=IY m a.s m.bls.length
  have aux:∀ L:List Nat,(L.flatMap fun b:Nat=>EN m (b:Int)).length≤L.length*33:=by
   intro L
   induction L with
   | nil=>simp
   | cons b L ih=>
     have:=MJ m (b:Int)
     rw[List.flatMap_cons,List.length_append,List.length_cons]; omega
  have:=aux (Bg m a.s m.bls.length)
  omega
 have hl1:=hlen c
 have hl2:=hlen 0
 obtain ⟨o,μ3,e3,g3,h3⟩:∃ o μ3,Bv P Af s1 (s2.1,s2.2.1,s2.2.2) (μ1++τ2)=some (o,μ3)∧EW (μ1++τ2) s1 μ3 o∧BQ Af 2 μ3 o (Bx m a.s c w++Bx m a.s 0 w).length (AL (Bx m a.s c w++Bx m a.s 0 w)):=by
  by_cases hz:Bx m a.s 0 w=[]
  ·rw[hz] at h2
   have f0:=h2.first
   have l2:=h2.len
   refine ⟨s1,μ1++τ2, ?_,EW.refl _ _,by rw[hz,List.append_nil]; exact h1.app _⟩
   rw[show s2.2.1=0 from l2]
   exact QX cq au c9 rfl rfl (by decide) (μ1++τ2) s1 _ _ s2.1 s2.2.2 (h1.app _) f0
  ·have hp:0<(Bx m a.s 0 w).length:=List.length_pos_iff.2 hz
   have f0:=h2.first
   have l2:=h2.len
   obtain ⟨o,μ3,e,g,hh⟩:=PY cq au c9 rfl rfl (by decide) (by decide) (by decide) (μ1++τ2) s1 (Bx m a.s c w).length (AL (Bx m a.s c w)) s2.1 (Bx m a.s 0 w).length s2.2.2 (AL (Bx m a.s 0 w)) (by omega) hp (KG _) (h1.app _) f0
   rw[l2]
   exact ⟨o,μ3,e,g,by rw[Jv,List.length_append]; exact hh⟩
 have hs1:∀ x,s1.1=some x→σ.length+1≤x.block:=fun x hx=>by have:=lo1 x hx; simp at this; omega
 have off1:sj i s1:=fun x hx hm=>by have:=hs1 x hx; have:=h.lt _ hm; omega
 have oa1:∀ x,s1.1=some x→x.block≠ab:=fun x hx=>by have:=hs1 x hx; have:=hA.lt; omega
 obtain ⟨H3,_⟩:=g3.heap (H1.app τ2) off1
 obtain ⟨A3,_⟩:=g3.other (A1.app τ2) oa1
 have A3:Cj μ3 ab i a:=A3
 have K3:Co i ab σ μ3:=⟨Nat.le_trans (K1.trans (Co.app _ τ2)).len g3.len,fun q hq h1' h2'=>by
  rw[g3.same q (by have:=(K1.trans (Co.app _ τ2)).len; omega) fun x hx=>by have:=hs1 x hx; omega]
  exact (K1.trans (Co.app _ τ2)).same q hq h1' h2'⟩
 obtain ⟨μ4,e4,H4,A4,K4⟩:=cm (k+1) (by omega) H3 A3 hab ho h3
 rw[Ve] at A4
 have e1':AM (k+11) (D8 ab) (c:Int) (w:Int) (σ++[.cells [] JD true])=_:=e1
 have e2':AM (k+11) (D8 ab) 0 (w:Int) μ1=_:=e2
 have e3':Bv P Af (s1.1,s1.2.1,s1.2.2) (s2.1,s2.2.1,s2.2.2) (μ1++τ2)=_:=e3
 have e4':AO (k+11) (D8 ab) (o.1,o.2.1,o.2.2) μ3=_:=e4
 have l3:Ai .i64 (σ++[.cells [] JD true]) ab 3=some (c:Int):=by rw[(hA.app _).l3,hcc]
 have had:=cj (m:=m) (a:=a) hnt (l:=Bx m a.s c w++Bx m a.s 0 w) (fun g hg=>by
  rcases List.mem_append.1 hg with hg | hg
  ·exact Sq hnt (by omega) g hg
  ·exact Sq hnt (by decide) g hg)
 unfold P8
 rw[show a.c.toNat=c from by omega]
 rw[NG,LX]
 simp only[Ap,Option.bind_some,Nat.zero_add,Nat.add_zero,l3,e1',H7,e2',e3',e4',Tp]
 have hra:=Ve m a (Bx m a.s c w++Bx m a.s 0 w)
 generalize B1 m a (Bx m a.s c w++Bx m a.s 0 w)=r at *
 by_cases q:r.1.2=true
 ·rw[if_pos q]
  simp only[q,cond_true,Ad (show AW (r.1.1+(w:Int)) by unfold AW; omega)]
  have:=A4.tH false (r.1.1+(w:Int))
  rw[show np false=3 from rfl] at this
  simp only[this,Option.bind_some,if_true]
  exact ⟨μ4.set ab (.cells ((a.put false (r.1.1+(w:Int)) a.l).row i.hb) AU true),by rw[show ((r.1,r.2.1,a.put false (r.1.1+(w:Int)) a.l):PR).1.2=true from q]; rfl,H4.RH hab _,A4.put _,(K3.trans K4).trans (Co.set _ _)⟩
 ·rw[if_neg q]
  have q':r.1.2=false:=by simpa using q
  simp only[q',cond_false,Option.bind_some,if_true]
  exact ⟨μ4,by simp only[q'],H4,by rw[hra]; exact A4,K3.trans K4⟩
end Go.Proofs.YtlaplcglpnlieaaGreat
end
section
namespace Go.Proofs.YtlaplcglpnlieaaGreat
open Go Go.AX
noncomputable local instance vw:AF:=Au
local instance uk:Kn:=⟨true⟩
variable {σ:Aa} {i:Cs} {m:HM} {ab:Nat} {a:AS}
def KF (ls:List Bool):Nat→Nat→Nat
 | 0,n=>n
 | f+1,n=>if n<ls.length∧ls.getD n false=false then KF ls f (n+1) else n
theorem et (ls:List Bool):∀ (f n:Nat),n≤KF ls f n
 | 0,n=>Nat.le_refl _
 | f+1,n=>by
   unfold KF
   split
   ·exact Nat.le_trans (Nat.le_succ n) (et ls f (n+1))
   ·exact Nat.le_refl _
theorem Y7 (ls:List Bool):∀ (f n:Nat),n≤ls.length→KF ls f n≤ls.length
 | 0,n,h=>h
 | f+1,n,h=>by
   unfold KF
   split
   ·exact Y7 ls f (n+1) (by omega)
   ·exact h
def Wb (ls:List Bool):Nat→Nat→List (Nat × Nat)
 | 0,_=>[]
 | f+1,x=>if x<ls.length then (if x<KF ls 8 x then [(x,KF ls 8 x)] else [])++Wb ls f (max (KF ls 8 x) x+1) else []
theorem bd (k:Nat) {ls:List Bool} (hls:ls.length≤8) {s:E8} (hs:BQ Eg 1 σ s ls.length (Gf ls)):∀ (n x f:Nat),x+n=ls.length→n<f →
  Ch k f s.1 ls.length s.2.2 (x:Int) σ=some (.exit 4,[.int .i64 ((KF ls n x:Nat):Int)],σ)
 | n,x,0,hx,hf=>by omega
 | 0,x,f+1,hx,hf=>by
   rw[G6,FF]
   simp only[decide_eq_false (show ¬ (x:Int)<((ls.length:Nat):Int) by omega),cond_false,Option.bind_some,KF]
 | n+1,x,f+1,hx,hf=>by
   have hxl:x<ls.length:=by omega
   obtain ⟨b,e0,l0⟩:=ZE hs hxl
   have w1:Ac ((x:Int)+1)=((x+1:Nat):Int):=Ad (by unfold AW; omega)
   have ih:=bd k hls hs n (x+1) f (by omega) (by omega)
   rw[e0] at ih
   rw[G6,FF]
   simp only[decide_eq_true (show (x:Int)<((ls.length:Nat):Int) by omega),cond_true,if_pos (show (0:Int)≤(x:Int)∧(x:Int)<((ls.length:Nat):Int) by omega),e0,Option.bind_some,Int.toNat_natCast,Nat.zero_add,Nat.mul_one,l0,KF,w1,ih]
   cases ls.getD x false with
   | false=>simp only[Bool.not_false,cond_true,hxl,and_self,if_true]
   | true=>simp only[Bool.not_true,cond_false,Bool.true_eq_false,and_false,if_false]
theorem Zk (ls:List Bool):∀ (f g n:Nat),ls.length≤n+f→ls.length≤n+g→KF ls f n=KF ls g n
 | 0,0,n,_,_=>rfl
 | 0,g+1,n,h,_=>by unfold KF; rw[if_neg (by omega)]
 | f+1,0,n,_,h=>by unfold KF; rw[if_neg (by omega)]
 | f+1,g+1,n,h1,h2=>by
   unfold KF
   rw[Zk ls f g (n+1) (by omega) (by omega)]
def Su (ls:List Bool) (b:Nat) (lim:Int) (f x:Nat):Option (Nat × Nat):=(Wb ls f x).find? fun g=>decide (64*(b:Int)+8*(g.1:Int)≥lim)
theorem bc (k:Nat) (hk:100≤k) {ls:List Bool} (hls:ls.length≤8) {b:Nat} (hb:b≤64) (s:E8) {h1:Nat} (hn1:h1≠ab) (hs1:∀ x,s.1=some x→x.block≠h1):∀ (n x f:Nat) (σ:Aa),Cj σ ab i a→BQ Eg 1 σ s ls.length (Gf ls)→σ[h1]?=some (H8 0 0)→ls.length<x+n→x≤20→n<f →
  Cg k f (D8 ab) h1 (b:Int) s.1 ls.length s.2.2 (x:Int) σ=some (match Su ls b a.l n x with | some g=>(.ret,[.bool true],σ.set h1 (H8 (64*(b:Int)+8*(g.1:Int)) (64*(b:Int)+8*(g.2:Int)))) | none=>(.exit 2,[],σ))
 | n,x,0,σ,hA,hs,hc,hx,hx2,hf=>by omega
 | n,x,f+1,σ,hA,hs,hc,hx,hx2,hf=>by
   rw[J2,Hu]
   by_cases hxl:x<ls.length
   ·obtain ⟨n,rfl⟩:∃ n',n=n'+1:=⟨n-1,by omega⟩
    have e1:=bd k hls hs (ls.length-x) x k (by omega) (by omega)
    rw[Zk ls (ls.length-x) 8 x (by omega) (by omega)] at e1
    have hge:=et ls 8 x
    have hle:=Y7 ls 8 x (by omega)
    generalize hr:KF ls 8 x=r at *
    have w1:Ac ((b:Int)*64)=64*(b:Int):=by rw[Ad (by unfold AW; omega)]; omega
    have w2:Ac ((x:Int)*8)=8*(x:Int):=by rw[Ad (by unfold AW; omega)]; omega
    have w3:Ac (64*(b:Int)+8*(x:Int))=64*(b:Int)+8*(x:Int):=Ad (by unfold AW; omega)
    have w4:Ac ((r:Int)*8)=8*(r:Int):=by rw[Ad (by unfold AW; omega)]; omega
    have w5:Ac (64*(b:Int)+8*(r:Int))=64*(b:Int)+8*(r:Int):=Ad (by unfold AW; omega)
    have w6:Ac ((if ((r:Nat):Int)>(x:Int) then ((r:Nat):Int) else (x:Int))+1)=((max r x+1:Nat):Int):=by
     rw[show (if ((r:Nat):Int)>(x:Int) then ((r:Nat):Int) else (x:Int))=((max r x:Nat):Int) from by split <;> omega]
     exact Ad (by unfold AW; omega)
    have ih:=bc k hk hls hb s hn1 hs1 n (max r x+1) f σ hA hs hc (by omega) (by omega) (by omega)
    have ep:Su ls b a.l (n+1) x=if x<r then (if 64*(b:Int)+8*(x:Int)≥a.l then some (x,r) else Su ls b a.l n (max r x+1)) else Su ls b a.l n (max r x+1):=by
     unfold Su
     rw[Wb,if_pos hxl,hr]
     by_cases q:x<r
     ·rw[if_pos q,if_pos q,List.singleton_append,List.find?_cons]
      by_cases q2:64*(b:Int)+8*(x:Int)≥a.l
      ·rw[if_pos q2]; simp only[decide_eq_true q2]
      ·rw[if_neg q2]; simp only[decide_eq_false q2]
     ·rw[if_neg q,if_neg q,List.nil_append]
    simp only[decide_eq_true (show (x:Int)<((ls.length:Nat):Int) by omega),cond_true,e1,Option.bind_some,if_true,D4,Nat.zero_add,Nat.reduceAdd,hA.l4,w1,w2,w3,w4,w5,w6,ep]
    by_cases q:x<r
    ·simp only[decide_eq_true (show ((r:Nat):Int)>(x:Int) by omega),cond_true,Option.bind_some,if_pos q]
     by_cases q2:64*(b:Int)+8*(x:Int)≥a.l
     ·simp only[decide_eq_true q2,cond_true,if_pos q2,Ki,hc,H8]
      rfl
     ·simp only[decide_eq_false q2,cond_false,if_neg q2,ih]
    ·simp only[decide_eq_false (show ¬ ((r:Nat):Int)>(x:Int) by omega),cond_false,Option.bind_some,if_neg q,ih]
   ·have ep:Su ls b a.l n x=none:=by
     unfold Su
     cases n with
     | zero=>rfl
     | succ n=>rw[Wb,if_neg hxl]; rfl
    simp only[decide_eq_false (show ¬ (x:Int)<((ls.length:Nat):Int) by omega),cond_false,ep]
def Nz (m:HM) (lim:Int):List Nat→Option (Nat × Nat × Nat)
 | []=>none
 | b::l=>match Su (Er m (b:Int)) b lim 9 0 with
   | some g=>some (b,g.1,g.2)
   | none=>Nz m lim l
theorem Q2 (m:HM) (b:Int):(Er m b).length≤8:=by
 unfold Er
 split
 ·rw[Ml]; exact Nat.le_refl _
 ·simp
theorem ba (k:Nat) (hk:5000≤k) (hI:Inv m) (hI2:Inv2 m) (h0:B0 m) {L:List Nat} (hL:∀ b ∈ L,b<m.bls.length) {h1:Nat} (hn1:h1≠ab) (hn2:h1 ∉ i.l) (s:E8) (hs1:∀ x,s.1=some x→x.block≠h1) (hLl:L.length≤64):∀ (n x f:Nat) (σ:Aa),Ah σ i m→Cj σ ab i a→BQ B9 1 σ s (UN L).length (Df (UN L))→σ[h1]?=some (H8 0 0)→x+n=L.length→n<f →
  ∃ σ',BL (k+7) f (D8 ab) h1 s.1 L.length s.2.2 ((L.length:Nat):Int) (x:Int) σ=some (match Nz m a.l (L.drop x) with | some _=>(.ret,[.bool true],σ') | none=>(.exit 0,[],σ')) ∧
   σ'[h1]?=some (match Nz m a.l (L.drop x) with | some g=>H8 (64*(g.1:Int)+8*(g.2.1:Int)) (64*(g.1:Int)+8*(g.2.2:Int)) | none=>H8 0 0)∧σ.length≤σ'.length ∧ ∀ q,q<σ.length→q≠h1→σ'[q]?=σ[q]?
 | n,x,0,σ,h,hA,hs,hc,hx,hf=>by omega
 | 0,x,f+1,σ,h,hA,hs,hc,hx,hf=>by
   rw[G5,FE,List.drop_of_length_le (by omega)]
   exact ⟨σ,by simp only[decide_eq_false (show ¬ (x:Int)<((L.length:Nat):Int) by omega),cond_false,Nz],hc,Nat.le_refl _,fun _ _ _=>rfl⟩
 | n+1,x,f+1,σ,h,hA,hs,hc,hx,hf=>by
   have hnt:=h.nt
   have hxl:x<L.length:=by omega
   obtain ⟨b,e0,l0⟩:=nJ hs (show x<(UN L).length by unfold UN; simpa using hxl)
   rw[dL hxl] at l0
   have hbl:=hL L[x] (List.getElem_mem _)
   have qx:(0≤(x:Int)∧(x:Int)<((L.length:Nat):Int))=True:=eq_true (by omega)
   have w1:Ac ((x:Int)+1)=((x+1:Nat):Int):=Ad (by unfold AW; omega)
   obtain ⟨τ,s1,e1,g1,lo1⟩:=pG k hk h hI hI2 h0 ((L[x]:Nat):Int)
   have hcl:=Ae hc
   have hc1:(σ++τ)[h1]?=some (H8 0 0):=by rw[List.getElem?_append_left hcl]; exact hc
   have e2:=bc (k+7) (by omega) (Q2 m ((L[x]:Nat):Int)) (b:=L[x]) (by omega) s1 (ab:=ab) (a:=a) hn1 (fun y hy=>by have:=lo1 y hy; omega) 9 0 (k+7) (σ++τ) (hA.app _) g1 hc1 (by have:=Q2 m ((L[x]:Nat):Int); omega) (by omega) (by omega)
   have hdr:L.drop x=L[x]::L.drop (x+1):=List.drop_eq_getElem_cons hxl
   rw[G5,FE,hdr,Nz]
   rw[show ((0:Nat):Int)=0 from rfl] at e2
   simp only[decide_eq_true (show (x:Int)<((L.length:Nat):Int) by omega),cond_true,qx,if_true,e0,Option.bind_some,Int.toNat_natCast,Nat.zero_add,Nat.add_zero,Nat.mul_one,l0,hA.XO,e1,H7,g1.len,e2,w1]
   cases hg:Su (Er m ((L[x]:Nat):Int)) L[x] a.l 9 0 with
   | some g=>
     refine ⟨(σ++τ).set h1 (H8 (64*((L[x]:Nat):Int)+8*(g.1:Int)) (64*((L[x]:Nat):Int)+8*(g.2:Int))), ?_,by rw[List.getElem?_set_self (Ae hc1)],by simp,fun q hq hn=>by rw[List.getElem?_set_ne (fun e=>hn e.symm),List.getElem?_append_left hq]⟩
     simp only[show (Bm.ret=Bm.exit 2)=False from by simp,if_false,if_true,RN]
   | none=>
     obtain ⟨σ',e3,c3,l3,s3⟩:=ba k hk hI hI2 h0 hL hn1 hn2 s hs1 hLl n (x+1) f (σ++τ) (h.app _) (hA.app _) (hs.app _) hc1 (by omega) (by omega)
     rw[e0] at e3
     refine ⟨σ', ?_,c3,by simp at l3; omega,fun q hq hn=>by rw[s3 q (by simp; omega) hn,List.getElem?_append_left hq]⟩
     simp only[if_true,e3]
def JZ (m:HM) (a:AS):Int × Int × Bool:=match Nz m a.l (Bg m a.s m.bls.length) with | some g=>(64*(g.1:Int)+8*(g.2.1:Int),64*(g.1:Int)+8*(g.2.2:Int),true) | none=>Wn m
def Lf (m:HM) (a:AS):HM:=match Nz m a.l (Bg m a.s m.bls.length) with | some g=>m | none=>Sd m a.s
theorem pZ (k:Nat) (hk:5000≤k) (h:Ah σ i m) (hA:Cj σ ab i a) (hab:ab ∉ i.l) (ho:a.ok) (hI:Inv m) (hI2:Inv2 m) (h0:B0 m):
  ∃ σ',CF (k+10) (D8 ab) σ=some (.tuple #[.agg #[.int .i64 (JZ m a).1,.int .i64 (JZ m a).2.1],.bool (JZ m a).2.2],σ')∧Ah σ' i (Lf m a)∧BM i σ σ':=by
 have hnt:=h.nt
 have hlt:=hA.lt
 have hnl:σ.length ∉ i.l:=fun hm=>Nat.lt_irrefl _ (h.lt _ hm)
 obtain ⟨τ1,s1,e1,g1⟩:=dd (k+4) (by omega) (h.app [H8 0 0]) (hA.app [H8 0 0])
 have hbl:=IY m a.s m.bls.length
 have hc0:(σ++[H8 0 0]++τ1)[σ.length]?=some (H8 0 0):=by rw[List.getElem?_append_left (by simp)]; simp
 obtain ⟨σ2,e2,c2,l2,k2⟩:=ba (ab:=ab) (a:=a) (i:=i) (k+2) (by omega) hI hI2 h0 (L:=Bg m a.s m.bls.length) (fun b hb=>(OW.1 hb).1) (h1:=σ.length) (by omega) hnl s1 (fun x hx=>by have:=(g1.ge x hx).1; simp at this; omega) (by omega) (Bg m a.s m.bls.length).length 0 (k+9) (σ++[H8 0 0]++τ1) ((h.app _).app _) ((hA.app _).app _) g1.sl hc0 (by omega) (by omega)
 rw[List.drop_zero] at e2 c2
 have kp:BM i σ σ2:=⟨by simp at l2; omega,fun q hq hm=>by rw[k2 q (by simp; omega) (by omega),List.append_assoc,List.getElem?_append_left hq]⟩
 have h2:Ah σ2 i m:=h.CT fun j hj=>by
  have:=h.lt j hj
  rw[k2 j (by simp; omega) (by omega),List.append_assoc,List.getElem?_append_left this]
 have A2:Cj σ2 ab i a:=hA.W7 kp hab
 have hlen:s1.2.1=(Bg m a.s m.bls.length).length:=by rw[g1.len]; simp[UN]
 have e1':Bq (k+9) (D8 ab) (σ++[H8 0 0])=_:=e1
 have e2':BL (k+9) (k+9) (D8 ab) σ.length s1.1 (Bg m a.s m.bls.length).length s1.2.2 (((Bg m a.s m.bls.length).length:Nat):Int) 0 (σ++[H8 0 0]++τ1)=_:=e2
 unfold JZ Lf
 rw[La,Jf]
 simp only[Ap,show (Bi.cells [.int .i64 0,.int .i64 0] Eu true)=H8 0 0 from rfl,e1',Option.bind_some,H7,hlen,e2']
 cases hh:Nz m a.l (Bg m a.s m.bls.length) with
 | some g=>
   rw[hh] at c2
   refine ⟨σ2, ?_,h2,kp⟩
   simp only[show (Bm.ret=Bm.exit 0)=False from by simp,if_false,if_true,RN,VV,c2,H8]
   rfl
 | none=>
   rw[hh] at c2
   obtain ⟨σ3,e3,h3,k3⟩:=ao k hk h2 A2 hab ho.s0
   have c3:=(k3.same _ (Ae c2) hnl).trans c2
   refine ⟨σ3.set σ.length (H8 (Wn m).1 (Wn m).2.1), ?_,h3.CT fun j hj=>List.getElem?_set_ne fun e=>hnl (by rw[e]; exact hj),⟨by have:=kp.len; have:=k3.len; simp; omega,fun q hq hm=>?_⟩⟩
   ·simp only[if_true,e3,Option.bind_some,Zq,List.length_cons,List.length_nil,List.head?_cons,List.tail_cons,ZD,As,Nat.zero_add,Nat.reduceAdd,Ki,c3,H8,VV]
    simp[AE,Q9,List.getElem?_set_self (Ae c3)]
   ·have:=kp.len
    rw[List.getElem?_set_ne (by omega),k3.same q (by omega) hm,kp.same q hq hm]
end Go.Proofs.YtlaplcglpnlieaaGreat
end
section
namespace Go.Proofs.YtlaplcglpnlieaaGreat
open Go Go.AX
noncomputable local instance vy:AF:=Au
local instance uo:Kn:=⟨true⟩
variable {σ:Aa} {b:Nat} {R:List (Nat × Nat)}
def gd (R:List (Nat × Nat)) (x:Nat):Nat × Nat:=R.getD x (0,0)
def G2 (σ:Aa) (b:Nat) (R:List (Nat × Nat)):Prop:=σ[b]?=some (.cells (AL R) Af true)
structure Fm (b:Nat) (σ σ':Aa):Prop where
 len:σ.length≤σ'.length
 same:∀ q,q<σ.length→q≠b→σ'[q]?=σ[q]?
theorem Fm.refl (σ:Aa):Fm b σ σ:=⟨Nat.le_refl _,fun _ _ _=>rfl⟩
theorem Fm.trans {x y z:Aa} (h:Fm b x y) (g:Fm b y z):Fm b x z:=⟨Nat.le_trans h.len g.len,fun q h1 h2=>(g.same q (Nat.lt_of_lt_of_le h1 h.len) h2).trans (h.same q h1 h2)⟩
theorem Fm.app (σ τ:Aa):Fm b σ (σ++τ):=⟨by simp,fun q h _=>List.getElem?_append_left h⟩
theorem Fm.set (σ:Aa) (o:Bi):Fm b σ (σ.set b o):=⟨by simp,fun q _ h=>List.getElem?_set_ne fun e=>h e.symm⟩
theorem G2.app (h:G2 σ b R) (τ:Aa):G2 (σ++τ) b R:=by unfold G2; rw[List.getElem?_append_left (Ae h)]; exact h
theorem G2.ld (h:G2 σ b R) {x:Nat} (hx:x<R.length):Ai .i64 σ b (x*2)=some ((gd R x).1:Int)∧Ai .i64 σ b (x*2+1)=some ((gd R x).2:Int):=by
 obtain ⟨h1,h2⟩:=WI R x hx
 unfold G2 at h
 exact ⟨by simp only[Ai,Gy,h,h1,Option.bind_some,Am]; rfl,by simp only[Ai,Gy,h,h2,Option.bind_some,Am]; rfl⟩
theorem bT:∀ (R:List (Nat × Nat)) (x:Nat) (e:Nat × Nat),x<R.length→AE (AL R) (x*2) [.int .i64 (e.1:Int),.int .i64 (e.2:Int)]=AL (R.set x e)
 | g::R,0,e,h=>by simp[AL,AE]
 | g::R,x+1,e,h=>by
   have ih:=bT R x e (by simpa using h)
   simp only[List.set_cons_succ,AL,← ih,AE]
   rw[show (x+1)*2=x*2+1+1 from by omega]
   simp[List.take_succ_cons,List.drop_succ_cons,Nat.add_right_comm]
theorem G2.st (h:G2 σ b R) {x:Nat} (hx:x<R.length) (e:Nat × Nat):Ki σ b (x*2) [.int .i64 (e.1:Int),.int .i64 (e.2:Int)]=some (σ.set b (.cells (AL (R.set x e)) Af true))∧G2 (σ.set b (.cells (AL (R.set x e)) Af true)) b (R.set x e):=by
 have h':=h
 unfold G2 at h'
 constructor
 ·simp only[Ki,h']
  rw[if_pos (by rw[KG]; simp; omega),bT R x e hx]
 ·unfold G2; rw[List.getElem?_set_self (Ae h)]
theorem oe (R:List (Nat × Nat)) (x y:Nat) (e:Nat × Nat) (hx:x<R.length):gd (R.set x e) y=if y=x then e else gd R y:=by
 unfold gd
 rw[List.getD_eq_getElem?_getD,List.getElem?_set]
 by_cases q:x=y
 ·subst q; rw[if_pos rfl,if_pos rfl,if_pos hx]; rfl
 ·rw[if_neg q,if_neg (fun e=>q e.symm),List.getD_eq_getElem?_getD]
def sw (R:List (Nat × Nat)) (x y:Nat):List (Nat × Nat):=(R.set x (gd R y)).set y (gd R x)
theorem cp (R:List (Nat × Nat)) (x y:Nat):(sw R x y).length=R.length:=by simp[sw]
theorem gZ (R:List (Nat × Nat)) (x y z:Nat) (hx:x<R.length) (hy:y<R.length):gd (sw R x y) z=if z=y then gd R x else if z=x then gd R y else gd R z:=by
 unfold sw
 rw[oe _ _ _ _ (by simpa using hy),oe _ _ _ _ hx]
theorem G2.sw (h:G2 σ b R) {x y:Nat} (hx:x<R.length) (hy:y<R.length):
  ∃ σ1 σ2,Ki σ b (x*2) [.int .i64 ((gd R y).1:Int),.int .i64 ((gd R y).2:Int)]=some σ1∧Ki σ1 b (y*2) [.int .i64 ((gd R x).1:Int),.int .i64 ((gd R x).2:Int)]=some σ2∧G2 σ2 b (sw R x y)∧Fm b σ σ2:=by
 obtain ⟨e1,h1⟩:=h.st hx (gd R y)
 obtain ⟨e2,h2⟩:=h1.st (x:=y) (by simpa using hy) (gd R x)
 exact ⟨_,_,e1,e2,h2,(Fm.set _ _).trans (Fm.set _ _)⟩
abbrev Qk:Value:=.func (.func Nw) #[] #[]
def cE (R:List (Nat × Nat)):Prop:=∀ x,(gd R x).1≤10000∧(gd R x).2≤10000
theorem fh (k:Nat) (e g:Nat × Nat) (he:e.2≤10000) (hg:g.2≤10000) (σ:Aa):∃ τ,Da (k+1) Qk [.agg #[.int .i64 (e.1:Int),.int .i64 (e.2:Int)],.agg #[.int .i64 (g.1:Int),.int .i64 (g.2:Int)]] σ=some (.int .i64 ((e.2:Int)-(g.2:Int)),σ++τ):=by
 rw[show Qk = .func (.func Nw) #[] #[] from rfl,Nl,L0,JE]
 simp only[Ap]
 have l1:Ai .i64 (σ++[Bi.cells [.int .i64 (e.1:Int),.int .i64 (e.2:Int)] Af true]++[Bi.cells [.int .i64 (g.1:Int),.int .i64 (g.2:Int)] Af true]) σ.length 1=some (e.2:Int):=by
  rw[ft _ _ _ (by simp)]; exact (lu _ _ _ _).2
 have l2:=(lu (σ++[Bi.cells [.int .i64 (e.1:Int),.int .i64 (e.2:Int)] Af true]) Af (g.1:Int) (g.2:Int)).2
 simp only[Nat.zero_add,l1,l2,Option.bind_some,Ad (show AW ((e.2:Int)-(g.2:Int)) by unfold AW; omega)]
 exact ⟨_,by rw[List.append_assoc]⟩
theorem jF (e g:Nat × Nat):decide ((e.2:Int)-(g.2:Int)<0)=decide (e.2<g.2):=by
 by_cases q:e.2<g.2
 ·rw[decide_eq_true q,decide_eq_true (by omega)]
 ·rw[decide_eq_false q,decide_eq_false (by omega)]
def Xy (e g:Nat × Nat):Prop:=e.2<g.2∨(e.2=g.2∧e.1<g.1)
theorem Xy.trans {e g h:Nat × Nat} (a:Xy e g) (c:Xy g h):Xy e h:=by unfold Xy at *; omega
def SJ (R:List (Nat × Nat)) (lo hi:Nat):Prop:=∀ x y,lo≤x→x<y→y<hi→Xy (gd R x) (gd R y)
def OA (R R':List (Nat × Nat)) (lo hi:Nat):Prop:=∀ e,(∃ x,lo≤x∧x<hi∧gd R' x=e)↔(∃ x,lo≤x∧x<hi∧gd R x=e)
def RT (R R':List (Nat × Nat)) (lo hi:Nat):Prop:=∀ x,x<lo∨hi≤x→gd R' x=gd R x
structure Zx (R R':List (Nat × Nat)) (lo hi:Nat):Prop where
 len:R'.length=R.length
 srt:SJ R' lo hi
 set:OA R R' lo hi
 out:RT R R' lo hi
theorem cE.of {R':List (Nat × Nat)} {lo hi:Nat} (h:cE R) (hs:OA R R' lo hi) (ho:RT R R' lo hi):cE R':=by
 intro x
 by_cases q:lo≤x∧x<hi
 ·obtain ⟨y,_,_,hy⟩:=(hs (gd R' x)).1 ⟨x,q.1,q.2,rfl⟩
  rw[← hy]; exact h y
 ·rw[ho x (by omega)]; exact h x
theorem cE.sw (h:cE R) {x y:Nat} (hx:x<R.length) (hy:y<R.length):cE (sw R x y):=by
 intro z
 rw[gZ _ _ _ _ hx hy]
 split
 ·exact h x
 ·split
  ·exact h y
  ·exact h z
theorem dE (k:Nat) {a:Nat} (hln:R.length≤3000):∀ (n j f:Nat) (σ:Aa) (R':List (Nat × Nat)),R'.length=R.length→G2 σ b R'→cE R'→j=a+n→j<R.length→SJ R' a j→(∀ x,a≤x→x<j→(gd R' x).1<(gd R' j).1)→n<f →
  ∃ σ' R'',AH (k+1) f (some ⟨b,0,none⟩) R.length R.length (a:Int) Qk (j:Int) σ=some (.exit 2,[],σ')∧G2 σ' b R''∧Zx R' R'' a (j+1)∧Fm b σ σ'
 | n,j,0,σ,R',hl,h,hS,hj,hjl,hs,hlt,hf=>by omega
 | 0,j,f+1,σ,R',hl,h,hS,hj,hjl,hs,hlt,hf=>by
   rw[Dh,C1]
   refine ⟨σ,R', ?_,h,⟨rfl,fun x y h1 h2 h3=>by omega,fun e=>Iff.rfl,fun x _=>rfl⟩,Fm.refl _⟩
   simp only[decide_eq_false (show ¬ (j:Int)>(a:Int) by omega),cond_false,Option.bind_some]
 | n+1,j,f+1,σ,R',hl,h,hS,hj,hjl,hs,hlt,hf=>by
   obtain ⟨p,rfl⟩:∃ p,j=p+1:=⟨j-1,by omega⟩
   have w1:Ac (((p+1:Nat):Int)-1)=(p:Int):=by rw[Ad (by unfold AW; omega)]; omega
   obtain ⟨l0,l1⟩:=h.ld (x:=p+1) (by omega)
   obtain ⟨l2,l3⟩:=h.ld (x:=p) (by omega)
   obtain ⟨τ,ec⟩:=fh k (gd R' (p+1)) (gd R' p) (hS _).2 (hS _).2 σ
   have q1:(0≤((p+1:Nat):Int)∧((p+1:Nat):Int)<((R.length:Nat):Int))=True:=eq_true (by omega)
   have q2:(0≤((p:Nat):Int)∧((p:Nat):Int)<((R.length:Nat):Int))=True:=eq_true (by omega)
   have h1:=h.app τ
   obtain ⟨m0,m1⟩:=h1.ld (x:=p+1) (by omega)
   obtain ⟨m2,m3⟩:=h1.ld (x:=p) (by omega)
   rw[Dh,C1]
   simp only[decide_eq_true (show ((p+1:Nat):Int)>(a:Int) by omega),cond_true,q1,q2,if_true,w1,Option.bind_some,Int.toNat_natCast,Nat.zero_add,l0,l1,l2,l3,ec,Am,jF,m0,m1,m2,m3]
   by_cases q:(gd R' (p+1)).2<(gd R' p).2
   ·obtain ⟨σ1,σ2,e1,e2,g2,o2⟩:=h1.sw (x:=p+1) (y:=p) (by omega) (by omega)
    have gs:∀ z,gd (sw R' (p+1) p) z=if z=p then gd R' (p+1) else if z=p+1 then gd R' p else gd R' z:=fun z=>gZ _ _ _ _ (by omega) (by omega)
    obtain ⟨σ3,R3,e3,g3,d3,o3⟩:=dE k (a:=a) hln n p f σ2 (sw R' (p+1) p) (by rw[cp]; exact hl) g2 (hS.sw (by omega) (by omega)) (by omega) (by omega) (fun x y a1 a2 a3=>by
     rw[gs,gs,if_neg (by omega),if_neg (by omega),if_neg (by omega),if_neg (by omega)]; exact hs x y a1 a2 (by omega)) (fun x a1 a2=>by
     rw[gs,gs,if_neg (by omega),if_neg (by omega),if_pos rfl]; exact hlt x a1 (by omega)) (by omega)
    refine ⟨σ3,R3, ?_,g3,⟨by rw[d3.len,cp], ?_, ?_, ?_⟩,((Fm.app _ _).trans o2).trans o3⟩
    ·simp only[decide_eq_true q,cond_true,e1,Option.bind_some,e2,e3]
    ·intro x y a1 a2 a3
     by_cases q3:y<p+1
     ·exact d3.srt x y a1 a2 q3
     ·obtain rfl:y=p+1:=by omega
      rw[d3.out (p+1) (by omega),gs (p+1),if_neg (by omega),if_pos rfl]
      obtain ⟨z,z1,z2,hz⟩:=(d3.set (gd R3 x)).1 ⟨x,a1,by omega,rfl⟩
      rw[← hz,gs]
      split
      ·exact .inl q
      ·rw[if_neg (by omega)]; exact hs z p z1 (by omega) (by omega)
    ·intro e
     constructor
     ·rintro ⟨x,a1,a2,rfl⟩
      by_cases q3:x<p+1
      ·obtain ⟨z,z1,z2,hz⟩:=(d3.set (gd R3 x)).1 ⟨x,a1,q3,rfl⟩
       rw[← hz,gs]
       split
       ·exact ⟨p+1,by omega,by omega,rfl⟩
       ·rw[if_neg (by omega)]; exact ⟨z,z1,by omega,rfl⟩
      ·obtain rfl:x=p+1:=by omega
       rw[d3.out (p+1) (by omega),gs (p+1),if_neg (by omega),if_pos rfl]
       exact ⟨p,by omega,by omega,rfl⟩
     ·rintro ⟨x,a1,a2,rfl⟩
      by_cases q3:x=p
      ·subst q3
       refine ⟨x+1,by omega,by omega, ?_⟩
       rw[d3.out (x+1) (by omega),gs,if_neg (by omega),if_pos rfl]
      ·have:∃ z,a≤z∧z<p+1∧gd (sw R' (p+1) p) z=gd R' x:=by
        by_cases q4:x=p+1
        ·exact ⟨p,by omega,by omega,by rw[gs,if_pos rfl,q4]⟩
        ·exact ⟨x,a1,by omega,by rw[gs,if_neg q3,if_neg q4]⟩
       obtain ⟨z,z1,z2,z3⟩:=(d3.set (gd R' x)).2 this
       exact ⟨z,z1,by omega,z3⟩
    ·intro x hx
     rw[d3.out x (by omega),gs,if_neg (by omega),if_neg (by omega)]
   ·refine ⟨σ++τ,R', ?_,h1,⟨rfl, ?_,fun e=>Iff.rfl,fun x _=>rfl⟩,Fm.app _ _⟩
    ·simp only[decide_eq_false q,cond_false]
    ·have key:Xy (gd R' p) (gd R' (p+1)):=by
      have:=hlt p (by omega) (by omega)
      unfold Xy; omega
     intro x y a1 a2 a3
     by_cases q3:y<p+1
     ·exact hs x y a1 a2 q3
     ·obtain rfl:y=p+1:=by omega
      by_cases q4:x=p
      ·subst q4; exact key
      ·exact (hs x p a1 (by omega) (by omega)).trans key
def sX (R:List (Nat × Nat)) (lo hi:Nat):Prop:=∀ x y,lo≤x→x<y→y<hi→(gd R x).1<(gd R y).1
theorem dD (k:Nat) (hk:5000≤k) {a c:Nat} (hln:R.length≤3000) (hc:c≤R.length):∀ (n j f:Nat) (σ:Aa) (R':List (Nat × Nat)),R'.length=R.length→G2 σ b R'→cE R'→c≤j+n→a<j→SJ R' a j→(∀ x y,a≤x→x<y→j≤y→y<c→(gd R' x).1<(gd R' y).1)→n<f →
  ∃ σ' R'',AG (k+1) f (some ⟨b,0,none⟩) R.length R.length (a:Int) (c:Int) Qk (j:Int) σ=some (.exit 0,[],σ')∧G2 σ' b R''∧Zx R' R'' a (max j c)∧Fm b σ σ'
 | n,j,0,σ,R',hl,h,hS,hj,haj,hs,hlt,hf=>by omega
 | n,j,f+1,σ,R',hl,h,hS,hj,haj,hs,hlt,hf=>by
   rw[Dg,C0]
   by_cases q:j<c
   ·obtain ⟨n,rfl⟩:∃ n',n=n'+1:=⟨n-1,by omega⟩
    obtain ⟨σ1,R1,e1,g1,d1,o1⟩:=dE k (a:=a) hln (j-a) j (k+1) σ R' hl h hS (by omega) (by omega) hs (fun x a1 a2=>hlt x j a1 a2 (Nat.le_refl _) q) (by omega)
    have w1:Ac ((j:Int)+1)=((j+1:Nat):Int):=Ad (by unfold AW; omega)
    obtain ⟨σ2,R2,e2,g2,d2,o2⟩:=dD k hk (a:=a) hln hc n (j+1) f σ1 R1 (d1.len.trans hl) g1 (hS.of d1.set d1.out) (by omega) (by omega) d1.srt (fun x y a1 a2 a3 a4=>by
     rw[d1.out y (by omega)]
     by_cases q2:x<j+1
     ·obtain ⟨z,z1,z2,hz⟩:=(d1.set (gd R1 x)).1 ⟨x,a1,q2,rfl⟩
      rw[← hz]; exact hlt z y z1 (by omega) (by omega) a4
     ·rw[d1.out x (by omega)]; exact hlt x y a1 a2 (by omega) a4) (by omega)
    refine ⟨σ2,R2, ?_,g2,⟨d2.len.trans d1.len, ?_, ?_, ?_⟩,o1.trans o2⟩
    ·simp only[decide_eq_true (show (j:Int)<(c:Int) by omega),cond_true,e1,Option.bind_some,if_true,w1,e2]
    ·rw[show max j c=max (j+1) c from by omega]; exact d2.srt
    ·rw[show max j c=max (j+1) c from by omega]
     intro e
     rw[d2.set e]
     constructor
     ·rintro ⟨x,a1,a2,rfl⟩
      by_cases q2:x<j+1
      ·obtain ⟨z,z1,z2,hz⟩:=(d1.set (gd R1 x)).1 ⟨x,a1,q2,rfl⟩
       exact ⟨z,z1,by omega,hz⟩
      ·exact ⟨x,a1,a2,(d1.out x (by omega)).symm⟩
     ·rintro ⟨x,a1,a2,rfl⟩
      by_cases q2:x<j+1
      ·obtain ⟨z,z1,z2,hz⟩:=(d1.set (gd R' x)).2 ⟨x,a1,q2,rfl⟩
       exact ⟨z,z1,by omega,hz⟩
      ·exact ⟨x,a1,a2,d1.out x (by omega)⟩
    ·intro x hx
     rw[d2.out x (by omega),d1.out x (by omega)]
   ·rw[show max j c=j from by omega]
    refine ⟨σ,R', ?_,h,⟨rfl,hs,fun e=>Iff.rfl,fun x _=>rfl⟩,Fm.refl _⟩
    simp only[decide_eq_false (show ¬ (j:Int)<(c:Int) by omega),cond_false]
theorem SJ.one (a:Nat):SJ R a (a+1):=fun x y h1 h2 h3=>by omega
theorem ox (k:Nat) (hk:5000≤k) {a c:Nat} (hln:R.length≤3000) (hac:a≤c) (hc:c≤R.length) (σ:Aa) (R':List (Nat × Nat)) (hl:R'.length=R.length) (h:G2 σ b R') (hS:cE R') (hI:sX R' a c):
  ∃ σ' R'',A9 (k+2) (some ⟨b,0,none⟩,R.length,R.length) (a:Int) (c:Int) Qk σ=some (.tuple #[],σ')∧G2 σ' b R''∧Zx R' R'' a c∧Fm b σ σ':=by
 obtain ⟨σ1,R1,e1,g1,d1,o1⟩:=dD k hk (a:=a) hln hc (c-a) (a+1) (k+1) σ R' hl h hS (by omega) (by omega) (SJ.one a) (fun x y a1 a2 a3 a4=>hI x y a1 a2 a4) (by omega)
 have w1:Ac ((a:Int)+1)=((a+1:Nat):Int):=Ad (by unfold AW; omega)
 refine ⟨σ1,R1, ?_,g1, ?_,o1⟩
 ·rw[DV,CP]
  simp only[w1,e1,Option.bind_some,if_true]
 ·by_cases q:a<c
  ·rw[show max (a+1) c=c from by omega] at d1; exact d1
  ·obtain rfl:a=c:=by omega
   rw[show max (a+1) a=a+1 from by omega] at d1
   have e0:gd R1 a=gd R' a:=by
    obtain ⟨z,z1,z2,hz⟩:=(d1.set (gd R1 a)).1 ⟨a,Nat.le_refl _,by omega,rfl⟩
    obtain rfl:z=a:=by omega
    exact hz.symm
   exact ⟨d1.len,fun x y _ _ _=>by omega,fun e=>⟨fun ⟨x,_,_,_⟩=>by omega,fun ⟨x,_,_,_⟩=>by omega⟩,fun x _=>by
    by_cases q2:x=a
    ·rw[q2]; exact e0
    ·exact d1.out x (by omega)⟩
theorem eC (k:Nat) (hln:R.length≤3000) {p q c:Nat} (hpq:p+c≤q) (hq:q+c≤R.length):∀ (n x f:Nat) (σ:Aa) (R':List (Nat × Nat)),R'.length=R.length→G2 σ b R'→x+n=c→n<f →
  ∃ σ' R'',B8 k f (some ⟨b,0,none⟩) R.length R.length (p:Int) (q:Int) (c:Int) (x:Int) σ=some (.exit 0,[],σ')∧G2 σ' b R''∧R''.length=R.length∧(∀ z,gd R'' z=if p+x≤z∧z<p+c then gd R' (z+(q-p)) else if q+x≤z∧z<q+c then gd R' (z-(q-p)) else gd R' z)∧Fm b σ σ'
 | n,x,0,σ,R',hl,h,hx,hf=>by omega
 | 0,x,f+1,σ,R',hl,h,hx,hf=>by
   rw[Gg,E9]
   refine ⟨σ,R', ?_,h,hl,fun z=>by rw[if_neg (by omega),if_neg (by omega)],Fm.refl _⟩
   simp only[decide_eq_false (show ¬ (x:Int)<(c:Int) by omega),cond_false]
 | n+1,x,f+1,σ,R',hl,h,hx,hf=>by
   have w1:Ac ((x:Int)+1)=((x+1:Nat):Int):=Ad (by unfold AW; omega)
   have w2:Ac ((q:Int)+(x:Int))=((q+x:Nat):Int):=Ad (by unfold AW; omega)
   have w3:Ac ((p:Int)+(x:Int))=((p+x:Nat):Int):=Ad (by unfold AW; omega)
   have q1:(0≤((q+x:Nat):Int)∧((q+x:Nat):Int)<((R.length:Nat):Int))=True:=eq_true (by omega)
   have q2:(0≤((p+x:Nat):Int)∧((p+x:Nat):Int)<((R.length:Nat):Int))=True:=eq_true (by omega)
   obtain ⟨l0,l1⟩:=h.ld (x:=q+x) (by omega)
   obtain ⟨l2,l3⟩:=h.ld (x:=p+x) (by omega)
   obtain ⟨σ1,σ2,e1,e2,g2,o2⟩:=h.sw (x:=p+x) (y:=q+x) (by omega) (by omega)
   obtain ⟨σ3,R3,e3,g3,l3',d3,o3⟩:=eC k hln hpq hq n (x+1) f σ2 (sw R' (p+x) (q+x)) (by rw[cp]; exact hl) g2 (by omega) (by omega)
   refine ⟨σ3,R3, ?_,g3,l3',fun z=>?_,o2.trans o3⟩
   ·rw[Gg,E9]
    simp only[decide_eq_true (show (x:Int)<(c:Int) by omega),cond_true,w1,w2,w3,q1,q2,if_true,Option.bind_some,Int.toNat_natCast,Nat.zero_add,l0,l1,l2,l3,e1,e2,e3]
   ·rw[d3 z]
    have gs:∀ z,gd (sw R' (p+x) (q+x)) z=if z=q+x then gd R' (p+x) else if z=p+x then gd R' (q+x) else gd R' z:=fun z=>gZ _ _ _ _ (by omega) (by omega)
    by_cases c1:p+(x+1)≤z∧z<p+c
    ·rw[if_pos c1,if_pos (by omega),gs,if_neg (by omega),if_neg (by omega)]
    ·rw[if_neg c1]
     by_cases c2:q+(x+1)≤z∧z<q+c
     ·rw[if_pos c2,if_neg (by omega),if_pos (by omega),gs,if_neg (by omega),if_neg (by omega)]
     ·rw[if_neg c2,gs]
      by_cases c3:z=q+x
      ·rw[if_pos c3,if_neg (by omega),if_pos (by omega)]; congr 1; omega
      ·rw[if_neg c3]
       by_cases c4:z=p+x
       ·rw[if_pos c4,if_pos (by omega)]; congr 1; omega
       ·rw[if_neg c4,if_neg (by omega),if_neg (by omega)]
theorem kE (k:Nat) (hk:5000≤k) (hln:R.length≤3000) {p q c:Nat} (hpq:p+c≤q) (hq:q+c≤R.length) (σ:Aa) (R':List (Nat × Nat)) (hl:R'.length=R.length) (h:G2 σ b R') (v:Value):
  ∃ σ' R'',Bz (k+1) (some ⟨b,0,none⟩,R.length,R.length) (p:Int) (q:Int) (c:Int) v σ=some (.tuple #[],σ')∧G2 σ' b R''∧R''.length=R.length∧(∀ z,gd R'' z=if p≤z∧z<p+c then gd R' (z+(q-p)) else if q≤z∧z<q+c then gd R' (z-(q-p)) else gd R' z)∧Fm b σ σ':=by
 obtain ⟨σ1,R1,e1,g1,l1,d1,o1⟩:=eC k hln hpq hq c 0 k σ R' hl h (by omega) (by omega)
 refine ⟨σ1,R1, ?_,g1,l1,d1,o1⟩
 rw[show ((0:Nat):Int)=0 from rfl] at e1
 rw[Lq,Hr]
 simp only[e1,Option.bind_some,if_true]
def gv (R R':List (Nat × Nat)) (s m e:Nat):Prop:=∀ z,gd R' z=if z<s∨e≤z then gd R z else if z<s+(e-m) then gd R (z+(m-s)) else gd R (z-(e-m))
theorem Y4 (k:Nat) (hk:5000≤k) (hln:R.length≤3000) {m:Nat} (v:Value):∀ (n i j f:Nat) (σ:Aa) (R':List (Nat × Nat)),R'.length=R.length→G2 σ b R'→1≤i→1≤j→i≤m→m+j≤R.length→i+j≤n→n<f →
  ∃ (σ':Aa) (R'':List (Nat × Nat)) (r:Nat),BR (k+1) f (some ⟨b,0,none⟩) R.length R.length (m:Int) v (i:Int) (j:Int) σ=some (.exit 0,[.int .i64 (r:Int)],σ')∧G2 σ' b R''∧R''.length=R.length∧1≤r∧r≤m∧m+r≤R.length∧(∀ R3,gv R'' R3 (m-r) m (m+r)→gv R' R3 (m-i) m (m+j))∧Fm b σ σ'
 | n,i,j,0,σ,R',hl,h,hi,hj,him,hjm,hn,hf=>by omega
 | n,i,j,f+1,σ,R',hl,h,hi,hj,him,hjm,hn,hf=>by
   rw[Lp,Hq]
   by_cases q:i=j
   ·subst q
    refine ⟨σ,R',i, ?_,h,hl,hi,him,hjm,fun R3 h3=>h3,Fm.refl _⟩
    simp only[bne_self_eq_false,cond_false]
   ·simp only[show ((i:Int) != (j:Int))=true from by simp; omega,cond_true]
    by_cases q2:i>j
    ·have w1:Ac ((m:Int)-(i:Int))=((m-i:Nat):Int):=by rw[Ad (by unfold AW; omega)]; omega
     have w2:Ac ((i:Int)-(j:Int))=((i-j:Nat):Int):=by rw[Ad (by unfold AW; omega)]; omega
     obtain ⟨σ1,R1,e1,g1,l1,d1,o1⟩:=kE k hk hln (p:=m-i) (q:=m) (c:=j) (by omega) (by omega) σ R' hl h v
     obtain ⟨σ2,R2,r,e2,g2,l2,r1,r2,r3,t2,o2⟩:=Y4 k hk hln v (n-1) (i-j) j f σ1 R1 l1 g1 (by omega) hj (by omega) hjm (by omega) (by omega)
     refine ⟨σ2,R2,r, ?_,g2,l2,r1,r2,r3,fun R3 h3 z=>?_,o1.trans o2⟩
     ·simp only[decide_eq_true (show (i:Int)>(j:Int) by omega),cond_true,w1,w2,e1,Option.bind_some,Ju,if_true,GK,e2]
     ·rw[t2 R3 h3 z]
      by_cases c1:z<m-i∨m+j≤z
      ·rw[if_pos (by omega),if_pos c1,d1,if_neg (by omega),if_neg (by omega)]
      ·rw[if_neg c1]
       by_cases c2:z<m-i+(m+j-m)
       ·rw[if_pos (by omega),if_pos c2,d1,if_pos (by omega)]
       ·rw[if_neg c2,if_neg (by omega)]
        by_cases c3:z<m-(i-j)+(m+j-m)
        ·rw[if_pos c3,d1,if_neg (by omega),if_pos (by omega)]; congr 1; omega
        ·rw[if_neg c3,d1,if_neg (by omega),if_neg (by omega)]
    ·have w1:Ac ((m:Int)-(i:Int))=((m-i:Nat):Int):=by rw[Ad (by unfold AW; omega)]; omega
     have w2:Ac ((j:Int)-(i:Int))=((j-i:Nat):Int):=by rw[Ad (by unfold AW; omega)]; omega
     have w3:Ac (Ac ((m:Int)+(j:Int))-(i:Int))=((m+j-i:Nat):Int):=by rw[Ad (show AW ((m:Int)+(j:Int)) by unfold AW; omega),Ad (by unfold AW; omega)]; omega
     obtain ⟨σ1,R1,e1,g1,l1,d1,o1⟩:=kE k hk hln (p:=m-i) (q:=m+j-i) (c:=i) (by omega) (by omega) σ R' hl h v
     obtain ⟨σ2,R2,r,e2,g2,l2,r1,r2,r3,t2,o2⟩:=Y4 k hk hln v (n-1) i (j-i) f σ1 R1 l1 g1 hi (by omega) him (by omega) (by omega) (by omega)
     refine ⟨σ2,R2,r, ?_,g2,l2,r1,r2,r3,fun R3 h3 z=>?_,o1.trans o2⟩
     ·simp only[decide_eq_false (show ¬ (i:Int)>(j:Int) by omega),cond_false,w1,w2,w3,e1,Option.bind_some,Ju,if_true,GK,e2]
     ·rw[t2 R3 h3 z]
      by_cases c1:z<m-i∨m+j≤z
      ·rw[if_pos (by omega),if_pos c1,d1,if_neg (by omega),if_neg (by omega)]
      ·rw[if_neg c1]
       by_cases c2:z<m-i+(m+j-m)
       ·rw[if_pos c2]
        by_cases c3:z<m-i+(m+(j-i)-m)
        ·rw[if_neg (by omega),if_pos c3,d1]
         by_cases c4:z+(m-(m-i))<m+j-i
         ·rw[if_neg (by omega),if_neg (by omega)]
         ·rw[if_neg (by omega),if_pos (by omega)]; congr 1; omega
        ·by_cases c5:m+(j-i)≤z
         ·exfalso; omega
         ·rw[if_neg (by omega),if_neg c3,d1,if_pos (by omega)]; congr 1; omega
       ·rw[if_neg c2]
        by_cases c3:m+(j-i)≤z
        ·rw[if_pos (by omega),d1,if_neg (by omega),if_pos (by omega)]; congr 1; omega
        ·exfalso; omega
theorem nc (k:Nat) (hk:10000≤k) (hln:R.length≤3000) {s m e:Nat} (hsm:s<m) (hme:m<e) (he:e≤R.length) (σ:Aa) (R':List (Nat × Nat)) (hl:R'.length=R.length) (h:G2 σ b R') (v:Value):
  ∃ σ' R'',Cm (k+2) (some ⟨b,0,none⟩,R.length,R.length) (s:Int) (m:Int) (e:Int) v σ=some (.tuple #[],σ')∧G2 σ' b R''∧R''.length=R.length∧gv R' R'' s m e∧Fm b σ σ':=by
 have w1:Ac ((m:Int)-(s:Int))=((m-s:Nat):Int):=by rw[Ad (by unfold AW; omega)]; omega
 have w2:Ac ((e:Int)-(m:Int))=((e-m:Nat):Int):=by rw[Ad (by unfold AW; omega)]; omega
 obtain ⟨σ1,R1,r,e1,g1,l1,r1,r2,r3,t1,o1⟩:=Y4 k (by omega) hln (m:=m) v (e-s) (m-s) (e-m) (k+1) σ R' hl h (by omega) (by omega) (by omega) (by omega) (by omega) (by omega)
 have w3:Ac ((m:Int)-(r:Int))=((m-r:Nat):Int):=by rw[Ad (by unfold AW; omega)]; omega
 obtain ⟨σ2,R2,e2,g2,l2,d2,o2⟩:=kE k (by omega) hln (p:=m-r) (q:=m) (c:=r) (by omega) (by omega) σ1 R1 l1 g1 v
 refine ⟨σ2,R2, ?_,g2,l2, ?_,o1.trans o2⟩
 ·rw[MR,IC]
  simp only[w1,w2,e1,Option.bind_some,if_true,D4,w3,e2,Ju]
 ·have:=t1 R2 (fun z=>by
   rw[d2 z]
   by_cases c1:z<m-r∨m+r≤z
   ·rw[if_pos c1,if_neg (by omega),if_neg (by omega)]
   ·rw[if_neg c1]
    by_cases c2:z<m
    ·rw[if_pos (by omega),if_pos (by omega)]
    ·rw[if_neg (by omega),if_pos (by omega),if_neg (by omega)]; congr 1; omega)
  rw[show m-(m-s)=s from by omega,show m+(e-m)=e from by omega] at this
  exact this
end Go.Proofs.YtlaplcglpnlieaaGreat
end
