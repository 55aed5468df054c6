/- The allocator's blocks and gaps.; The policies first, next, lines.; Holes; the policy lines.; A list of gaps in memory, swapped: insertion sort, swapR -/
import Derived.Test.YtlaplcglpnlieaaGreatP18
set_option linter.unusedVariables false
set_option linter.unusedSimpArgs false
set_option linter.unusedSectionVars false
section
namespace Go.Proofs.YtlaplcglpnlieaaGreat
open Go Go.AX
noncomputable local instance vU:AK:=As
local instance uN:Kn:=⟨true⟩
variable {σ:Aa} {i:C9} {m:HM} {ab:Nat} {a:AS}
def Br (m:HM) (s:Int) (n:Nat):List Nat:=(List.range n).filter fun b=>decide ((m.bls.getD b (0,0)).1=1∧(m.bls.getD b (0,0)).2=s)
def V2 (l:List Nat):List Int:=l.map fun b:Nat=>(b:Int)
theorem N7 (m:HM) (s:Int) (n:Nat):Br m s (n+1)=Br m s n++if (m.bls.getD n (0,0)).1=1∧(m.bls.getD n (0,0)).2=s then [n] else []:=by
 unfold Br
 rw[List.range_succ,List.filter_append]
 congr 1
 by_cases q:(m.bls.getD n (0,0)).1=1∧(m.bls.getD n (0,0)).2=s
 ·rw[if_pos q,List.filter_cons,if_pos (decide_eq_true q)]; rfl
 ·rw[if_neg q,List.filter_cons,if_neg (by rw[decide_eq_false q]; decide)]; rfl
theorem KH (m:HM) (s:Int) (n:Nat):(Br m s n).length≤n:=by
 have:=List.length_filter_le (fun b=>decide ((m.bls.getD b (0,0)).1=1∧(m.bls.getD b (0,0)).2=s)) (List.range n)
 rw[List.length_range] at this; exact this
theorem RC {m:HM} {s:Int} {n b:Nat}:b ∈ Br m s n↔b<n∧(m.bls.getD b (0,0)).1=1∧(m.bls.getD b (0,0)).2=s:=by
 unfold Br; simp[List.mem_filter]
theorem mc {α:Type} (x u y v:Int) (s:α):(bif x == u then some (y == v,s) else some (false,s))=some (decide (x=u∧y=v),s):=by
 by_cases q:x=u
 ·subst q
  by_cases q2:y=v
  ·subst q2; simp
  ·simp[q2]
 ·rw[show (x == u)=false from by simpa using q]; simp[q]
theorem Tu (k:Nat) (h:Ah σ i m) (hA:Ch σ ab i a):∀ (n x f:Nat) (τ:Aa) (s:En),x+n=m.bls.length→AL σ.length (σ++τ) s (V2 (Br m a.s x))→n<f →
  ∃ τ' s',B1 (k+4) f (DC ab) ((m.bls.length:Nat):Int) s (x:Int) (σ++τ)=some (.exit 0,[.slice s'.1 s'.2.1 s'.2.2],σ++τ')∧AL σ.length (σ++τ') s' (V2 (Br m a.s m.bls.length))
 | n,x,0,τ,s,hx,hs,hf=>by omega
 | 0,x,f+1,τ,s,hx,hs,hf=>by
   obtain rfl:x=m.bls.length:=by omega
   rw[FU,Fh]
   exact ⟨τ,s,by simp only[decide_eq_false (Int.lt_irrefl _),cond_false],hs⟩
 | n+1,x,f+1,τ,s,hx,hs,hf=>by
   have hnt:=h.nt
   have hxl:x<m.bls.length:=by omega
   have g:=h.app τ
   have A:=hA.app τ
   have w1:Ad ((x:Int)+1)=((x+1:Nat):Int):=Ac (by unfold AN; omega)
   have e1:Dn (k+4) (CW i) (x:Int) (σ++τ)=_:=ib (k+1) g hxl
   have e2:Bp (k+4) (CW i) (x:Int) (σ++τ)=_:=aV (k+1) g hxl
   rw[FU,Fh]
   simp only[decide_eq_true (show (x:Int)<((m.bls.length:Nat):Int) by omega),cond_true,Option.bind_some,Nat.add_zero,Nat.zero_add,A.Ys,e1,e2,Am,A.l1,w1]
   rw[mc]
   by_cases q:(m.bls.getD x (0,0)).1=1∧(m.bls.getD x (0,0)).2=a.s
   ·obtain ⟨s1,τ1,e3,i1⟩:=Xe σ τ s _ (x:Int) (by have:=KH m a.s x; simp[V2]; omega) hs
    have e3':Bo P Bk (s.1,s.2.1,s.2.2) (some ⟨(σ++τ).length,0,none⟩,1,1) (σ++τ++[.cells [.int .i64 (x:Int)] Bk true])=_:=e3
    obtain ⟨τ2,s2,e4,i2⟩:=Tu k h hA n (x+1) f τ1 s1 (by omega) (by rw[N7,if_pos q]; simpa [V2] using i1) (by omega)
    refine ⟨τ2,s2, ?_,i2⟩
    simp only[decide_eq_true q,Option.bind_some,cond_true,Ao,e3',if_true,Gj]
    exact e4
   ·obtain ⟨τ2,s2,e4,i2⟩:=Tu k h hA n (x+1) f τ s (by omega) (by rw[N7,if_neg q,List.append_nil]; exact hs) (by omega)
    refine ⟨τ2,s2, ?_,i2⟩
    simp only[decide_eq_false q,Option.bind_some,cond_false,if_true,Gj]
    exact e4
theorem dQ (k:Nat) (hk:100≤k) (h:Ah σ i m) (hA:Ch σ ab i a):
  ∃ τ s,Bt (k+5) (DC ab) σ=some (.slice s.1 s.2.1 s.2.2,σ++τ)∧AL σ.length (σ++τ) s (V2 (Br m a.s m.bls.length)):=by
 have hnt:=h.nt
 obtain ⟨τ,s,e,hs⟩:=Tu k h hA m.bls.length 0 (k+4) [] (none,0,0) (by omega) (.inl ⟨rfl,rfl⟩) (by omega)
 rw[List.append_nil] at e
 refine ⟨τ,s, ?_,hs⟩
 have e':B1 (k+4) (k+4) (DC ab) ((m.bls.length:Nat):Int) (none,0,0) 0 σ=_:=e
 have e0:AH (k+4) (CW i) σ=_:=JR (k+2) h
 rw[Kr,Im]
 simp only[Option.bind_some,Nat.add_zero,hA.Ys,e0,Am,e',if_true,Gj]
def KJ (f w:Nat) (g:Nat × Nat):Option (Nat × Nat):=if w≤g.1+g.2-max f g.1 then some (max f g.1,g.1+g.2-max f g.1) else none
theorem tV (μ:Aa) (T:TypeId) (p q x:Value):G7 (μ++[.cells [p,q] T true]) μ.length 0 x=some (μ++[.cells [x,q] T true]):=by
 simp[G7]
theorem tW (μ:Aa) (T:TypeId) (p q x:Value):G7 (μ++[.cells [p,q] T true]) μ.length 1 x=some (μ++[.cells [p,x] T true]):=by
 simp[G7]
theorem qF (g:Nat × Nat) (fr w:Nat) (hfr:fr≤10000) (hw:1≤w) (hg:g.1+g.2≤10000) (μ:Aa):
  ∃ st sz:Int,((bif decide (Ad ((fr:Int)-(g.1:Int))>0) then ((G7 (μ++[.cells [.int .i64 (g.1:Int),.int .i64 (g.2:Int)] Af true]) μ.length 0 (.int .i64 (fr:Int))).bind fun s17=>(G7 s17 μ.length 1 (.int .i64 (Ad ((g.2:Int)-Ad ((fr:Int)-(g.1:Int)))))).bind fun s18=>some (.normal,[],s18)) else (some (.normal,[],μ++[.cells [.int .i64 (g.1:Int),.int .i64 (g.2:Int)] Af true])):Option Ay) =
   some (.normal,[],μ++[.cells [.int .i64 st,.int .i64 sz] Af true]))∧(match KJ fr w g with | some g'=>sz≥(w:Int)∧st=(g'.1:Int)∧sz=(g'.2:Int) | none=>¬ sz≥(w:Int)):=by
 have w1:Ad ((fr:Int)-(g.1:Int))=(fr:Int)-(g.1:Int):=Ac (by unfold AN; omega)
 have w2:Ad ((g.2:Int)-((fr:Int)-(g.1:Int)))=(g.2:Int)-((fr:Int)-(g.1:Int)):=Ac (by unfold AN; omega)
 rw[w1]
 unfold KJ
 by_cases q:(fr:Int)-(g.1:Int)>0
 ·refine ⟨(fr:Int),(g.2:Int)-((fr:Int)-(g.1:Int)), ?_, ?_⟩
  ·rw[decide_eq_true q]
   simp only[cond_true,w1,w2,Option.bind_some,tV,tW]
  ·rw[Nat.max_eq_left (by omega)]
   by_cases q2:w≤g.1+g.2-fr
   ·rw[if_pos q2]; dsimp only; omega
   ·rw[if_neg q2]; dsimp only; omega
 ·refine ⟨(g.1:Int),(g.2:Int), ?_, ?_⟩
  ·rw[decide_eq_false q]; rfl
  ·rw[Nat.max_eq_right (by omega)]
   by_cases q2:w≤g.1+g.2-g.1
   ·rw[if_pos q2]; dsimp only; omega
   ·rw[if_neg q2]; dsimp only; omega
def sS (s o:En):Prop:=∀ a,o.1=some a → ∀ b,s.1=some b→a.block≠b.block
theorem EP.sl {E:TypeId} {z n:Nat} {row:List Value} {σ':Aa} {s o o':En} (g:EP σ o σ' o') (h:Cj E z σ s n row) (ha:sS s o):Cj E z σ' s n row∧sS s o':=by
 refine ⟨h.CX fun b hb=>?_,fun x hx b hb=>?_⟩
 ·exact g.same b.block (h.lt b hb) fun x hx=>ha x hx b hb
 ·rcases g.new with rfl | hw
  ·exact ha x hx b hb
  ·have:=hw x hx; have:=h.lt b hb; omega
theorem Xd (k:Nat) {fr w:Nat} (hfr:fr≤10000) (hw:1≤w∧w≤1000) {R:List (Nat × Nat)} (hR:R.length≤100) (hRb:∀ g ∈ R,g.1+g.2≤10000) (s:En):∀ (n x f:Nat) (μ:Aa) (o:En) (R0:List (Nat × Nat)),Cj Af 2 μ s R.length (Bj R)→Cj Af 2 μ o R0.length (Bj R0)→sS s o→R0.length+n≤100000→x+n=R.length→n<f →
  ∃ μ' o',BJ k f (fr:Int) (w:Int) s.1 R.length s.2.2 ((R.length:Nat):Int) o (x:Int) μ=some (.exit 2,[.slice o'.1 o'.2.1 o'.2.2],μ')∧EP μ o μ' o'∧Cj Af 2 μ' o' (R0++(R.drop x).filterMap (KJ fr w)).length (Bj (R0++(R.drop x).filterMap (KJ fr w)))
 | n,x,0,μ,o,R0,hs,ho,hd,hl,hx,hf=>by omega
 | 0,x,f+1,μ,o,R0,hs,ho,hd,hl,hx,hf=>by
   rw[GA,FG]
   refine ⟨μ,o,by simp only[decide_eq_false (show ¬ (x:Int)<((R.length:Nat):Int) by omega),cond_false],EP.refl _ _, ?_⟩
   rw[List.drop_of_length_le (by omega)]
   simpa using ho
 | n+1,x,f+1,μ,o,R0,hs,ho,hd,hl,hx,hf=>by
   have hxl:x<R.length:=by omega
   obtain ⟨b,e0,l0,l1⟩:=TW hs hxl
   have eg:R.getD x (0,0)=R[x]:=by rw[List.getD_eq_getElem?_getD,List.getElem?_eq_getElem hxl]; rfl
   rw[eg] at l0 l1
   have qx:(0≤(x:Int)∧(x:Int)<((R.length:Nat):Int))=True:=eq_true (by omega)
   have w1:Ad ((x:Int)+1)=((x+1:Nat):Int):=Ac (by unfold AN; omega)
   obtain ⟨st,sz,eb,hc⟩:=qF R[x] fr w hfr hw.1 (hRb _ (List.getElem_mem _)) μ
   have ea:∀ (st sz:Int),Ai .i64 (μ++[.cells [.int .i64 st,.int .i64 sz] Af true]) μ.length 0=some st∧Ai .i64 (μ++[.cells [.int .i64 st,.int .i64 sz] Af true]) μ.length 1=some sz:=fun st sz=>mr μ Af st sz
   have hdr:R.drop x=R[x]::R.drop (x+1):=List.drop_eq_getElem_cons hxl
   rw[GA,FG]
   simp only[decide_eq_true (show (x:Int)<((R.length:Nat):Int) by omega),cond_true,qx,if_true,e0,Option.bind_some,Int.toNat_natCast,Nat.zero_add,Nat.add_zero,l0,l1,Ao,rf,(ea _ _).1,eb,(ea _ _).2,w1]
   have hg1:Cj Af 2 (μ++[.cells [.int .i64 st,.int .i64 sz] Af true]) s R.length (Bj R):=hs.app _
   cases hcg:KJ fr w R[x] with
   | none=>
     rw[hcg] at hc
     simp only[decide_eq_false (show ¬ sz≥(w:Int) from hc),cond_false,Option.bind_some,if_true,Gj]
     obtain ⟨μ',o',e2,g2,h2⟩:=Xd k hfr hw hR hRb s n (x+1) f (μ++[.cells [.int .i64 st,.int .i64 sz] Af true]) o R0 hg1 (ho.app _) hd (by omega) (by omega) (by omega)
     rw[e0] at e2
     refine ⟨μ',o',e2,(EP.app _ _ _).trans g2, ?_⟩
     rw[hdr,List.filterMap_cons_none hcg]; exact h2
   | some g=>
     rw[hcg] at hc
     obtain ⟨c1,rfl,rfl⟩:=hc
     simp only[decide_eq_true (show ((g.2:Nat):Int)≥(w:Int) from c1),cond_true,Option.bind_some]
     obtain ⟨o1,μ1,e1,g1,h1⟩:=c9 gS gj gY rfl rfl (by decide) (by decide) (by decide) (μ++[.cells [.int .i64 (g.1:Int),.int .i64 (g.2:Int)] Af true]) o R0.length (Bj R0) 1 1 [.int .i64 (g.1:Int),.int .i64 (g.2:Int)] Af (by omega) (by decide) rfl (ho.app _)
     have e1':Bo P Af (o.1,o.2.1,o.2.2) (some ⟨(μ++[AY.cells [.int .i64 (g.1:Int),.int .i64 (g.2:Int)] Af true]).length,0,none⟩,1,1) (μ++[AY.cells [.int .i64 (g.1:Int),.int .i64 (g.2:Int)] Af true]++[AY.cells [.int .i64 (g.1:Int),.int .i64 (g.2:Int)] Af true])=_:=e1
     have gA:EP μ o μ1 o1:=(EP.app _ _ _).trans g1
     obtain ⟨s1,d1⟩:=gA.sl hs hd
     rw[show Bj R0++[Value.int .i64 (g.1:Int),.int .i64 (g.2:Int)]=Bj (R0++[g]) from by rw[Lb]; rfl,show R0.length+1=(R0++[g]).length from by simp] at h1
     obtain ⟨μ',o',e2,g2,h2⟩:=Xd k hfr hw hR hRb s n (x+1) f μ1 o1 (R0++[g]) s1 h1 d1 (by simp; omega) (by omega) (by omega)
     rw[e0] at e2
     refine ⟨μ',o', ?_,gA.trans g2, ?_⟩
     ·simp only[e1',Option.bind_some,if_true,Gj]
      exact e2
     ·rw[hdr,List.filterMap_cons_some hcg]; simpa using h2
def EV (m:HM) (l:List Nat):List (Nat × Nat):=l.flatMap fun b:Nat=>Ha m (b:Int)
def Cr (m:HM) (s:Int) (f w:Nat):List (Nat × Nat):=(EV m (Br m s m.bls.length)).filterMap (KJ f w)
theorem mn {a e M:Nat} (hM:e≤M):∀ g ∈ Jn a e,g.1+g.2≤M:=by
 intro g hg
 unfold Jn at hg
 split at hg
 ·simp at hg; subst hg; dsimp only; omega
 ·simp at hg
theorem et (hnt:m.bls.length≤64) (b:Int):∀ g ∈ Ha m b,g.1+g.2≤4096:=by
 have aux:∀ (L:List Nat) (a:Nat),(∀ j ∈ L,2*j≤4096) → ∀ g ∈ (EF m L a).1,g.1+g.2≤4096:=by
  intro L
  induction L with
  | nil=>intro a _ g hg; simp[EF] at hg
  | cons j L ih=>
    intro a hL g hg
    rw[EF] at hg
    rcases List.mem_append.1 hg with h | h
    ·exact mn (hL j (by simp)) g h
    ·exact ih _ (fun j hj=>hL j (by simp[hj])) g h
 intro g hg
 unfold Ha at hg
 split at hg
 ·rename_i hst
  obtain ⟨n,rfl,hn,_⟩:=Zn hst
  rw[Int.toNat_natCast] at hg
  unfold bS at hg
  rcases List.mem_append.1 hg with h | h
  ·exact aux _ _ (fun j hj=>by have:=JD.1 hj; omega) g h
  ·exact mn (by omega) g h
 ·simp at hg
theorem XJ (hnt:m.bls.length≤64) (b:Int):∀ g ∈ Ha m b,g.1+g.2≤10000:=fun g hg=>by have:=et hnt b g hg; omega
theorem eX {L:List Nat} {x:Nat} (hx:x<L.length):(V2 L).getD x 0=((L[x]:Nat):Int):=by
 unfold V2
 rw[List.getD_eq_getElem?_getD,List.getElem?_map,List.getElem?_eq_getElem hx]; rfl
theorem bU (k:Nat) (hk:5000≤k) (hI:Inv m) (h0:B0 m) {fr w:Nat} (hfr:fr≤10000) (hw:1≤w∧w≤1000) {L:List Nat} (hL:∀ b ∈ L,b<m.bls.length) (hLl:L.length≤64) (s:En):∀ (n x f:Nat) (μ:Aa) (o:En) (R0:List (Nat × Nat)),Ah μ i m→Ch μ ab i a→Cj Bk 1 μ s (V2 L).length (CP (V2 L))→Cj Af 2 μ o R0.length (Bj R0)→sS s o→sN i o→(∀ x,o.1=some x→x.block≠ab)→R0.length+33*n≤50000→x+n=L.length→n<f →
  ∃ μ' o',BI (k+7) f (DC ab) (fr:Int) (w:Int) s.1 L.length s.2.2 ((L.length:Nat):Int) o (x:Int) μ=some (.exit 0,[.slice o'.1 o'.2.1 o'.2.2],μ')∧EP μ o μ' o'∧Cj Af 2 μ' o' (R0++(EV m (L.drop x)).filterMap (KJ fr w)).length (Bj (R0++(EV m (L.drop x)).filterMap (KJ fr w)))
 | n,x,0,μ,o,R0,h,hA,hs,ho,hd,hof,hoa,hl,hx,hf=>by omega
 | 0,x,f+1,μ,o,R0,h,hA,hs,ho,hd,hof,hoa,hl,hx,hf=>by
   rw[G9,FF]
   refine ⟨μ,o,by simp only[decide_eq_false (show ¬ (x:Int)<((L.length:Nat):Int) by omega),cond_false],EP.refl _ _, ?_⟩
   rw[List.drop_of_length_le (by omega)]
   simpa [EV] using ho
 | n+1,x,f+1,μ,o,R0,h,hA,hs,ho,hd,hof,hoa,hl,hx,hf=>by
   have hxl:x<L.length:=by omega
   obtain ⟨b,e0,l0⟩:=oC hs (show x<(V2 L).length by unfold V2; simpa using hxl)
   rw[eX hxl] at l0
   have qx:(0≤(x:Int)∧(x:Int)<((L.length:Nat):Int))=True:=eq_true (by omega)
   have w1:Ad ((x:Int)+1)=((x+1:Nat):Int):=Ac (by unfold AN; omega)
   obtain ⟨τ,s1,e1,h1,lo1⟩:=rO k hk h hI h0 ((L[x]:Nat):Int)
   have hlen:=Qn m ((L[x]:Nat):Int)
   have gA:EP μ o (μ++τ) o:=EP.app _ _ _
   obtain ⟨sl1,_⟩:=gA.sl hs hd
   have d1:sS s1 o:=fun x hx b hb=>by have:=ho.lt x hx; have:=lo1 b hb; omega
   obtain ⟨μ1,o1,e2,g1,h2⟩:=Xd (k+7) hfr hw (R:=Ha m ((L[x]:Nat):Int)) (by omega) (XJ h.nt _) s1 (Ha m ((L[x]:Nat):Int)).length 0 (k+7) (μ++τ) o R0 h1 (ho.app _) d1 (by omega) (by omega) (by omega)
   rw[List.drop_zero] at h2
   have g2:EP μ o μ1 o1:=gA.trans g1
   obtain ⟨hh1,of1⟩:=g2.heap h hof
   obtain ⟨hA1,oa1⟩:=g2.other hA hoa
   obtain ⟨hs1,d2⟩:=g2.sl hs hd
   have hfl:((Ha m ((L[x]:Nat):Int)).filterMap (KJ fr w)).length≤33:=Nat.le_trans (List.length_filterMap_le _ _) hlen
   obtain ⟨μ2,o2,e3,g3,h3⟩:=bU k hk hI h0 hfr hw hL hLl s n (x+1) f μ1 o1 _ hh1 hA1 hs1 h2 d2 of1 oa1 (by rw[List.length_append]; omega) (by omega) (by omega)
   rw[e0] at e3
   refine ⟨μ2,o2, ?_,g2.trans g3, ?_⟩
   ·have e2':BJ (k+7) (k+7) (fr:Int) (w:Int) s1.1 (Ha m ((L[x]:Nat):Int)).length s1.2.2 (((Ha m ((L[x]:Nat):Int)).length:Nat):Int) (o.1,o.2.1,o.2.2) 0 (μ++τ)=_:=e2
    rw[G9,FF]
    simp only[decide_eq_true (show (x:Int)<((L.length:Nat):Int) by omega),cond_true,qx,if_true,e0,Option.bind_some,Int.toNat_natCast,Nat.zero_add,Nat.add_zero,Nat.mul_one,l0,hA.Ys,e1,Hs,h1.len,e2',Gj,w1]
    exact e3
   ·rw[List.drop_eq_getElem_cons hxl]
    simp only[EV,List.flatMap_cons,List.filterMap_append,List.append_assoc] at h3 ⊢
    exact h3
theorem ay (k:Nat) (hk:5000≤k) (h:Ah σ i m) (hA:Ch σ ab i a) (hI:Inv m) (h0:B0 m) {fr w:Nat} (hfr:fr≤10000) (hw:1≤w∧w≤1000):
  ∃ τ s,AM (k+8) (DC ab) (fr:Int) (w:Int) σ=some (.slice s.1 s.2.1 s.2.2,σ++τ)∧Cj Af 2 (σ++τ) s (Cr m a.s fr w).length (Bj (Cr m a.s fr w)) ∧ ∀ x,s.1=some x→σ.length≤x.block:=by
 have hnt:=h.nt
 obtain ⟨τ1,s1,e1,h1⟩:=dQ (k+2) (by omega) h hA
 have hbl:=KH m a.s m.bls.length
 obtain ⟨μ,o,e2,g2,h2⟩:=bU (ab:=ab) (a:=a) k hk hI h0 hfr hw (L:=Br m a.s m.bls.length) (fun b hb=>(RC.1 hb).1) (by omega) s1 (Br m a.s m.bls.length).length 0 (k+7) (σ++τ1) (none,0,0) [] (h.app _) (hA.app _) h1.sl (Cj.nil _ _ _) (fun x hx=>by cases hx) (fun x hx=>by cases hx) (fun x hx=>by cases hx) (by simp; omega) (by omega) (by omega)
 obtain ⟨⟨τ,rfl⟩,hb⟩:=(show EP (σ++τ1) (none,0,0) μ o from g2).behind (fun x hx=>by cases hx)
 refine ⟨τ,o, ?_,by simpa [Cr] using h2,hb⟩
 have e1':Bt (k+7) (DC ab) σ=_:=e1
 have e2':BI (k+7) (k+7) (DC ab) (fr:Int) (w:Int) s1.1 (Br m a.s m.bls.length).length s1.2.2 (((Br m a.s m.bls.length).length:Nat):Int) (none,0,0) 0 (σ++τ1)=_:=e2
 have hlen:s1.2.1=(Br m a.s m.bls.length).length:=by rw[h1.len]; simp[V2]
 rw[Lt,Ju]
 simp only[e1',Option.bind_some,Hs,hlen,e2',if_true,Gj]
end Go.Proofs.YtlaplcglpnlieaaGreat
end
section
namespace Go.Proofs.YtlaplcglpnlieaaGreat
open Go Go.AX
noncomputable local instance vV:AK:=As
local instance uO:Kn:=⟨true⟩
variable {σ:Aa} {i:C9} {m:HM} {ab:Nat} {a:AS}
def BQ (m:HM) (a:AS) (l:List (Nat × Nat)):PR:=
 match l with
 | g::_=>(((g.1:Int),true),m,a)
 | []=>match Kt m with
   | some b=>((64*(b:Int),true),Dh m b a.s,a)
   | none=>((0,false),m,a)
theorem db (k:Nat) (hk:5000≤k) (h:Ah σ i m) (hA:Ch σ ab i a) (hab:ab ∉ i.l) (ho:a.ok) {sl:En} {l:List (Nat × Nat)} (hs:Cj Af 2 σ sl l.length (Bj l)):
  dk (AP (k+10) (DC ab) sl σ) σ i ab (BQ m a l):=by
 rw[KN,IL]
 cases l with
 | cons g l=>
   obtain ⟨b,e0,l0,_⟩:=TW hs (x:=0) (by simp)
   rw[hs.len]
   rw[Nat.zero_mul] at l0
   refine ⟨σ, ?_,h,hA,Co.refl _⟩
   simp only[decide_eq_true (show (((g::l).length:Nat):Int)>0 by simp only[List.length_cons]; omega),cond_true,if_pos (show (0:Int)≤0∧(0:Int)<(((g::l).length:Nat):Int) by simp only[List.length_cons]; omega),e0,Option.bind_some,Int.toNat_zero,Nat.zero_mul,Nat.add_zero,l0,BQ]
   rfl
 | nil=>
   obtain ⟨σ1,e1,g1,k1⟩:=bh k hk h hA hab ho.s0
   have hA1:=hA.UC k1 hab
   rw[hs.len]
   simp only[List.length_nil,decide_eq_false (show ¬ ((0:Nat):Int)>0 by omega),cond_false,e1,Option.bind_some,Yu,List.length_cons,List.head?_cons,List.tail_cons,av,Au,Ao,rf,Nat.zero_add,Nat.reduceAdd,if_true,(mr _ _ _ _).1]
   unfold X8 S7 at *
   cases hfr:Kt m with
   | none=>
     simp only[hfr] at g1 ⊢
     rw[show BQ m a []=((0,false),m,a) from by simp only[BQ,hfr]]
     exact ⟨_,rfl,g1.app _,hA1.app _,(Co.of k1).trans (Co.app _ _)⟩
   | some b=>
     simp only[hfr] at g1 ⊢
     rw[show BQ m a []=((64*(b:Int),true),Dh m b a.s,a) from by simp only[BQ,hfr]]
     exact ⟨_,rfl,g1.app _,hA1.app _,(Co.of k1).trans (Co.app _ _)⟩
theorem bM (k:Nat) (hk:5000≤k) (h:Ah σ i m) (hA:Ch σ ab i a) (hab:ab ∉ i.l) (ho:a.ok) (hI:Inv m) (h0:B0 m) {w:Nat} (hw:1≤w∧w≤1000):
  dk (Da (k+12) (DC ab) (w:Int) σ) σ i ab (BQ m a (Cr m a.s 0 w)):=by
 obtain ⟨τ,s,e1,h1,_⟩:=ay (k+3) (by omega) (h.app [.cells [] Jl true]) (hA.app _) hI h0 (fr:=0) (by decide) hw
 obtain ⟨σ2,e2,g2,a2,k2⟩:=db (k+1) (by omega) ((h.app [.cells [] Jl true]).app τ) ((hA.app _).app _) hab ho h1
 refine ⟨σ2, ?_,g2,a2,((Co.app _ _).trans (Co.app _ _)).trans k2⟩
 have e1':AM (k+11) (DC ab) 0 (w:Int) (σ++[.cells [] Jl true])=_:=e1
 have e2':AP (k+11) (DC ab) (s.1,s.2.1,s.2.2) (σ++[.cells [] Jl true]++τ)=_:=e2
 rw[N9,L9]
 simp only[Ao,e1',Option.bind_some,Hs,e2',TJ]
def SP (m:HM) (a:AS) (w:Nat):PR:=
 if (BQ m a (Cr m a.s a.c.toNat w++Cr m a.s 0 w)).1.2=true then
  ((BQ m a (Cr m a.s a.c.toNat w++Cr m a.s 0 w)).1,(BQ m a (Cr m a.s a.c.toNat w++Cr m a.s 0 w)).2.1,a.put false ((BQ m a (Cr m a.s a.c.toNat w++Cr m a.s 0 w)).1.1+w) a.l)
 else BQ m a (Cr m a.s a.c.toNat w++Cr m a.s 0 w)
theorem jM (m:HM) (a:AS) (l:List (Nat × Nat)):(BQ m a l).2.2=a:=by
 unfold BQ
 split
 ·rfl
 ·split <;> rfl
theorem cZ (hl:m.bls.length≤64) {l:List (Nat × Nat)} (hg:∀ g ∈ l,g.1≤10000):0≤(BQ m a l).1.1∧(BQ m a l).1.1≤10000:=by
 unfold BQ
 split
 ·have:=hg _ (List.mem_cons_self); dsimp only; omega
 ·split
  ·rename_i b hb
   have:=Hp hb
   dsimp only; omega
  ·dsimp only; omega
theorem qE {f w:Nat} {g g':Nat × Nat} (hf:f≤10000) (hg:g.1+g.2≤10000) (h:KJ f w g=some g'):g'.1≤10000:=by
 unfold KJ at h
 split at h
 ·cases h; dsimp only; omega
 ·cases h
theorem SI (hl:m.bls.length≤64) {s:Int} {f w:Nat} (hf:f≤10000):∀ g ∈ Cr m s f w,g.1≤10000:=by
 intro g hg
 unfold Cr at hg
 obtain ⟨g0,h0,hc⟩:=List.mem_filterMap.1 hg
 unfold EV at h0
 obtain ⟨b,_,hb⟩:=List.mem_flatMap.1 h0
 exact qE hf (XJ hl _ g0 hb) hc
theorem dC (k:Nat) (hk:5000≤k) (h:Ah σ i m) (hA:Ch σ ab i a) (hab:ab ∉ i.l) (ho:a.ok) (hI:Inv m) (h0:B0 m) {w:Nat} (hw:1≤w∧w≤1000):
  dk (D4 (k+12) (DC ab) (w:Int) σ) σ i ab (SP m a w):=by
 have hc:=ho.c0
 have hnt:=h.nt
 obtain ⟨c,hcc⟩:∃ c:Nat,a.c=(c:Int):=⟨a.c.toNat,by omega⟩
 obtain ⟨τ1,s1,e1,h1,lo1⟩:=ay (k+3) (by omega) (h.app [.cells [] JY true]) (hA.app _) hI h0 (fr:=c) (by omega) hw
 obtain ⟨μ1,hμ1⟩:∃ μ1,σ++[AY.cells [] JY true]++τ1=μ1:=⟨_,rfl⟩
 rw[hμ1] at e1 h1
 have H1:Ah μ1 i m:=hμ1 ▸ (h.app _).app _
 have A1:Ch μ1 ab i a:=hμ1 ▸ (hA.app _).app _
 have K1:Co i ab σ μ1:=hμ1 ▸ (Co.app _ _).trans (Co.app _ _)
 obtain ⟨τ2,s2,e2,h2,lo2⟩:=ay (k+3) (by omega) H1 A1 hI h0 (fr:=0) (by decide) hw
 have hlen:∀ f,(Cr m a.s f w).length≤64*33:=by
  intro f
  unfold Cr
  refine Nat.le_trans (List.length_filterMap_le _ _) ?_
  unfold EV
  have hb:=KH m a.s m.bls.length
  have aux:∀ L:List Nat,(L.flatMap fun b:Nat=>Ha m (b:Int)).length≤L.length*33:=by
   intro L
   induction L with
   | nil=>simp
   | cons b L ih=>
     have:=Qn m (b:Int)
     rw[List.flatMap_cons,List.length_append,List.length_cons]; omega
  have:=aux (Br m a.s m.bls.length)
  omega
 have hl1:=hlen c
 have hl2:=hlen 0
 obtain ⟨o,μ3,e3,g3,h3⟩:∃ o μ3,Bo P Af s1 (s2.1,s2.2.1,s2.2.2) (μ1++τ2)=some (o,μ3)∧EP (μ1++τ2) s1 μ3 o∧Cj Af 2 μ3 o (Cr m a.s c w++Cr m a.s 0 w).length (Bj (Cr m a.s c w++Cr m a.s 0 w)):=by
  by_cases hz:Cr m a.s 0 w=[]
  ·rw[hz] at h2
   have f0:=h2.first
   have l2:=h2.len
   refine ⟨s1,μ1++τ2, ?_,EP.refl _ _,by rw[hz,List.append_nil]; exact h1.app _⟩
   rw[show s2.2.1=0 from l2]
   exact UY gS gj gY rfl rfl (by decide) (μ1++τ2) s1 _ _ s2.1 s2.2.2 (h1.app _) f0
  ·have hp:0<(Cr m a.s 0 w).length:=List.length_pos_iff.2 hz
   have f0:=h2.first
   have l2:=h2.len
   obtain ⟨o,μ3,e,g,hh⟩:=Tl gS gj gY rfl rfl (by decide) (by decide) (by decide) (μ1++τ2) s1 (Cr m a.s c w).length (Bj (Cr m a.s c w)) s2.1 (Cr m a.s 0 w).length s2.2.2 (Bj (Cr m a.s 0 w)) (by omega) hp (MF _) (h1.app _) f0
   rw[l2]
   exact ⟨o,μ3,e,g,by rw[Lb,List.length_append]; exact hh⟩
 have hs1:∀ x,s1.1=some x→σ.length+1≤x.block:=fun x hx=>by have:=lo1 x hx; simp at this; omega
 have off1:sN i s1:=fun x hx hm=>by have:=hs1 x hx; have:=h.lt _ hm; omega
 have oa1:∀ x,s1.1=some x→x.block≠ab:=fun x hx=>by have:=hs1 x hx; have:=hA.lt; omega
 obtain ⟨H3,_⟩:=g3.heap (H1.app τ2) off1
 obtain ⟨A3,_⟩:=g3.other (A1.app τ2) oa1
 have A3:Ch μ3 ab i a:=A3
 have K3:Co i ab σ μ3:=⟨Nat.le_trans (K1.trans (Co.app _ τ2)).len g3.len,fun q hq h1' h2'=>by
  rw[g3.same q (by have:=(K1.trans (Co.app _ τ2)).len; omega) fun x hx=>by have:=hs1 x hx; omega]
  exact (K1.trans (Co.app _ τ2)).same q hq h1' h2'⟩
 obtain ⟨μ4,e4,H4,A4,K4⟩:=db (k+1) (by omega) H3 A3 hab ho h3
 rw[jM] at A4
 have e1':AM (k+11) (DC ab) (c:Int) (w:Int) (σ++[.cells [] JY true])=_:=e1
 have e2':AM (k+11) (DC ab) 0 (w:Int) μ1=_:=e2
 have e3':Bo P Af (s1.1,s1.2.1,s1.2.2) (s2.1,s2.2.1,s2.2.2) (μ1++τ2)=_:=e3
 have e4':AP (k+11) (DC ab) (o.1,o.2.1,o.2.2) μ3=_:=e4
 have l3:Ai .i64 (σ++[.cells [] JY true]) ab 3=some (c:Int):=by rw[(hA.app _).l3,hcc]
 have had:=cZ (m:=m) (a:=a) hnt (l:=Cr m a.s c w++Cr m a.s 0 w) (fun g hg=>by
  rcases List.mem_append.1 hg with hg | hg
  ·exact SI hnt (by omega) g hg
  ·exact SI hnt (by decide) g hg)
 unfold SP
 rw[show a.c.toNat=c from by omega]
 rw[Oa,My]
 simp only[Ao,Option.bind_some,Nat.zero_add,Nat.add_zero,l3,e1',Hs,e2',e3',e4',TJ]
 have hra:=jM m a (Cr m a.s c w++Cr m a.s 0 w)
 generalize BQ m a (Cr m a.s c w++Cr m a.s 0 w)=r at *
 by_cases q:r.1.2=true
 ·rw[if_pos q]
  simp only[q,cond_true,Ac (show AN (r.1.1+(w:Int)) by unfold AN; omega)]
  have:=A4.uq false (r.1.1+(w:Int))
  rw[show og false=3 from rfl] at this
  simp only[this,Option.bind_some,if_true]
  exact ⟨μ4.set ab (.cells ((a.put false (r.1.1+(w:Int)) a.l).row i.hb) AV true),by rw[show ((r.1,r.2.1,a.put false (r.1.1+(w:Int)) a.l):PR).1.2=true from q]; rfl,H4.Sj hab _,A4.put _,(K3.trans K4).trans (Co.set _ _)⟩
 ·rw[if_neg q]
  have q':r.1.2=false:=by simpa using q
  simp only[q',cond_false,Option.bind_some,if_true]
  exact ⟨μ4,by simp only[q'],H4,by rw[hra]; exact A4,K3.trans K4⟩
end Go.Proofs.YtlaplcglpnlieaaGreat
end
section
namespace Go.Proofs.YtlaplcglpnlieaaGreat
open Go Go.AX
noncomputable local instance vW:AK:=As
local instance uP:Kn:=⟨true⟩
variable {σ:Aa} {i:C9} {m:HM} {ab:Nat} {a:AS}
def La (ls:List Bool):Nat→Nat→Nat
 | 0,n=>n
 | f+1,n=>if n<ls.length∧ls.getD n false=false then La ls f (n+1) else n
theorem fD (ls:List Bool):∀ (f n:Nat),n≤La ls f n
 | 0,n=>Nat.le_refl _
 | f+1,n=>by
   unfold La
   split
   ·exact Nat.le_trans (Nat.le_succ n) (fD ls f (n+1))
   ·exact Nat.le_refl _
theorem Zg (ls:List Bool):∀ (f n:Nat),n≤ls.length→La ls f n≤ls.length
 | 0,n,h=>h
 | f+1,n,h=>by
   unfold La
   split
   ·exact Zg ls f (n+1) (by omega)
   ·exact h
def WI (ls:List Bool):Nat→Nat→List (Nat × Nat)
 | 0,_=>[]
 | f+1,x=>if x<ls.length then (if x<La ls 8 x then [(x,La ls 8 x)] else [])++WI ls f (max (La ls 8 x) x+1) else []
theorem bZ (k:Nat) {ls:List Bool} (hls:ls.length≤8) {s:En} (hs:Cj Ei 1 σ s ls.length (Gk ls)):∀ (n x f:Nat),x+n=ls.length→n<f →
  Cf k f s.1 ls.length s.2.2 (x:Int) σ=some (.exit 4,[.int .i64 ((La ls n x:Nat):Int)],σ)
 | n,x,0,hx,hf=>by omega
 | 0,x,f+1,hx,hf=>by
   rw[GC,FI]
   simp only[decide_eq_false (show ¬ (x:Int)<((ls.length:Nat):Int) by omega),cond_false,Option.bind_some,La]
 | n+1,x,f+1,hx,hf=>by
   have hxl:x<ls.length:=by omega
   obtain ⟨b,e0,l0⟩:=aw hs hxl
   have w1:Ad ((x:Int)+1)=((x+1:Nat):Int):=Ac (by unfold AN; omega)
   have ih:=bZ k hls hs n (x+1) f (by omega) (by omega)
   rw[e0] at ih
   rw[GC,FI]
   simp only[decide_eq_true (show (x:Int)<((ls.length:Nat):Int) by omega),cond_true,if_pos (show (0:Int)≤(x:Int)∧(x:Int)<((ls.length:Nat):Int) by omega),e0,Option.bind_some,Int.toNat_natCast,Nat.zero_add,Nat.mul_one,l0,La,w1,ih]
   cases ls.getD x false with
   | false=>simp only[Bool.not_false,cond_true,hxl,and_self,if_true]
   | true=>simp only[Bool.not_true,cond_false,Bool.true_eq_false,and_false,if_false]
theorem ZJ (ls:List Bool):∀ (f g n:Nat),ls.length≤n+f→ls.length≤n+g→La ls f n=La ls g n
 | 0,0,n,_,_=>rfl
 | 0,g+1,n,h,_=>by unfold La; rw[if_neg (by omega)]
 | f+1,0,n,_,h=>by unfold La; rw[if_neg (by omega)]
 | f+1,g+1,n,h1,h2=>by
   unfold La
   rw[ZJ ls f g (n+1) (by omega) (by omega)]
def SK (ls:List Bool) (b:Nat) (lim:Int) (f x:Nat):Option (Nat × Nat):=(WI ls f x).find? fun g=>decide (64*(b:Int)+8*(g.1:Int)≥lim)
theorem bY (k:Nat) (hk:100≤k) {ls:List Bool} (hls:ls.length≤8) {b:Nat} (hb:b≤64) (s:En) {h1:Nat} (hn1:h1≠ab) (hs1:∀ x,s.1=some x→x.block≠h1):∀ (n x f:Nat) (σ:Aa),Ch σ ab i a→Cj Ei 1 σ s ls.length (Gk ls)→σ[h1]?=some (HI 0 0)→ls.length<x+n→x≤20→n<f →
  Ce k f (DC ab) h1 (b:Int) s.1 ls.length s.2.2 (x:Int) σ=some (match SK ls b a.l n x with | some g=>(.ret,[.bool true],σ.set h1 (HI (64*(b:Int)+8*(g.1:Int)) (64*(b:Int)+8*(g.2:Int)))) | none=>(.exit 2,[],σ))
 | n,x,0,σ,hA,hs,hc,hx,hx2,hf=>by omega
 | n,x,f+1,σ,hA,hs,hc,hx,hx2,hf=>by
   rw[JN,H5]
   by_cases hxl:x<ls.length
   ·obtain ⟨n,rfl⟩:∃ n',n=n'+1:=⟨n-1,by omega⟩
    have e1:=bZ k hls hs (ls.length-x) x k (by omega) (by omega)
    rw[ZJ ls (ls.length-x) 8 x (by omega) (by omega)] at e1
    have hge:=fD ls 8 x
    have hle:=Zg ls 8 x (by omega)
    generalize hr:La ls 8 x=r at *
    have w1:Ad ((b:Int)*64)=64*(b:Int):=by rw[Ac (by unfold AN; omega)]; omega
    have w2:Ad ((x:Int)*8)=8*(x:Int):=by rw[Ac (by unfold AN; omega)]; omega
    have w3:Ad (64*(b:Int)+8*(x:Int))=64*(b:Int)+8*(x:Int):=Ac (by unfold AN; omega)
    have w4:Ad ((r:Int)*8)=8*(r:Int):=by rw[Ac (by unfold AN; omega)]; omega
    have w5:Ad (64*(b:Int)+8*(r:Int))=64*(b:Int)+8*(r:Int):=Ac (by unfold AN; omega)
    have w6:Ad ((if ((r:Nat):Int)>(x:Int) then ((r:Nat):Int) else (x:Int))+1)=((max r x+1:Nat):Int):=by
     rw[show (if ((r:Nat):Int)>(x:Int) then ((r:Nat):Int) else (x:Int))=((max r x:Nat):Int) from by split <;> omega]
     exact Ac (by unfold AN; omega)
    have ih:=bY k hk hls hb s hn1 hs1 n (max r x+1) f σ hA hs hc (by omega) (by omega) (by omega)
    have ep:SK ls b a.l (n+1) x=if x<r then (if 64*(b:Int)+8*(x:Int)≥a.l then some (x,r) else SK ls b a.l n (max r x+1)) else SK ls b a.l n (max r x+1):=by
     unfold SK
     rw[WI,if_pos hxl,hr]
     by_cases q:x<r
     ·rw[if_pos q,if_pos q,List.singleton_append,List.find?_cons]
      by_cases q2:64*(b:Int)+8*(x:Int)≥a.l
      ·rw[if_pos q2]; simp only[decide_eq_true q2]
      ·rw[if_neg q2]; simp only[decide_eq_false q2]
     ·rw[if_neg q,if_neg q,List.nil_append]
    simp only[decide_eq_true (show (x:Int)<((ls.length:Nat):Int) by omega),cond_true,e1,Option.bind_some,if_true,Ds,Nat.zero_add,Nat.reduceAdd,hA.l4,w1,w2,w3,w4,w5,w6,ep]
    by_cases q:x<r
    ·simp only[decide_eq_true (show ((r:Nat):Int)>(x:Int) by omega),cond_true,Option.bind_some,if_pos q]
     by_cases q2:64*(b:Int)+8*(x:Int)≥a.l
     ·simp only[decide_eq_true q2,cond_true,if_pos q2,JM,hc,HI]
      rfl
     ·simp only[decide_eq_false q2,cond_false,if_neg q2,ih]
    ·simp only[decide_eq_false (show ¬ ((r:Nat):Int)>(x:Int) by omega),cond_false,Option.bind_some,if_neg q,ih]
   ·have ep:SK ls b a.l n x=none:=by
     unfold SK
     cases n with
     | zero=>rfl
     | succ n=>rw[WI,if_neg hxl]; rfl
    simp only[decide_eq_false (show ¬ (x:Int)<((ls.length:Nat):Int) by omega),cond_false,ep]
def NL (m:HM) (lim:Int):List Nat→Option (Nat × Nat × Nat)
 | []=>none
 | b::l=>match SK (Ew m (b:Int)) b lim 9 0 with
   | some g=>some (b,g.1,g.2)
   | none=>NL m lim l
theorem QQ (m:HM) (b:Int):(Ew m b).length≤8:=by
 unfold Ew
 split
 ·rw[MD]; exact Nat.le_refl _
 ·simp
theorem bX (k:Nat) (hk:5000≤k) (hI:Inv m) (hI2:Inv2 m) (h0:B0 m) {L:List Nat} (hL:∀ b ∈ L,b<m.bls.length) {h1:Nat} (hn1:h1≠ab) (hn2:h1 ∉ i.l) (s:En) (hs1:∀ x,s.1=some x→x.block≠h1) (hLl:L.length≤64):∀ (n x f:Nat) (σ:Aa),Ah σ i m→Ch σ ab i a→Cj Bk 1 σ s (V2 L).length (CP (V2 L))→σ[h1]?=some (HI 0 0)→x+n=L.length→n<f →
  ∃ σ',BL (k+7) f (DC ab) h1 s.1 L.length s.2.2 ((L.length:Nat):Int) (x:Int) σ=some (match NL m a.l (L.drop x) with | some _=>(.ret,[.bool true],σ') | none=>(.exit 0,[],σ')) ∧
   σ'[h1]?=some (match NL m a.l (L.drop x) with | some g=>HI (64*(g.1:Int)+8*(g.2.1:Int)) (64*(g.1:Int)+8*(g.2.2:Int)) | none=>HI 0 0)∧σ.length≤σ'.length ∧ ∀ q,q<σ.length→q≠h1→σ'[q]?=σ[q]?
 | n,x,0,σ,h,hA,hs,hc,hx,hf=>by omega
 | 0,x,f+1,σ,h,hA,hs,hc,hx,hf=>by
   rw[GB,FH,List.drop_of_length_le (by omega)]
   exact ⟨σ,by simp only[decide_eq_false (show ¬ (x:Int)<((L.length:Nat):Int) by omega),cond_false,NL],hc,Nat.le_refl _,fun _ _ _=>rfl⟩
 | n+1,x,f+1,σ,h,hA,hs,hc,hx,hf=>by
   have hnt:=h.nt
   have hxl:x<L.length:=by omega
   obtain ⟨b,e0,l0⟩:=oC hs (show x<(V2 L).length by unfold V2; simpa using hxl)
   rw[eX hxl] at l0
   have hbl:=hL L[x] (List.getElem_mem _)
   have qx:(0≤(x:Int)∧(x:Int)<((L.length:Nat):Int))=True:=eq_true (by omega)
   have w1:Ad ((x:Int)+1)=((x+1:Nat):Int):=Ac (by unfold AN; omega)
   obtain ⟨τ,s1,e1,g1,lo1⟩:=qs k hk h hI hI2 h0 ((L[x]:Nat):Int)
   have hcl:=Ae hc
   have hc1:(σ++τ)[h1]?=some (HI 0 0):=by rw[List.getElem?_append_left hcl]; exact hc
   have e2:=bY (k+7) (by omega) (QQ m ((L[x]:Nat):Int)) (b:=L[x]) (by omega) s1 (ab:=ab) (a:=a) hn1 (fun y hy=>by have:=lo1 y hy; omega) 9 0 (k+7) (σ++τ) (hA.app _) g1 hc1 (by have:=QQ m ((L[x]:Nat):Int); omega) (by omega) (by omega)
   have hdr:L.drop x=L[x]::L.drop (x+1):=List.drop_eq_getElem_cons hxl
   rw[GB,FH,hdr,NL]
   rw[show ((0:Nat):Int)=0 from rfl] at e2
   simp only[decide_eq_true (show (x:Int)<((L.length:Nat):Int) by omega),cond_true,qx,if_true,e0,Option.bind_some,Int.toNat_natCast,Nat.zero_add,Nat.add_zero,Nat.mul_one,l0,hA.Ys,e1,Hs,g1.len,e2,w1]
   cases hg:SK (Ew m ((L[x]:Nat):Int)) L[x] a.l 9 0 with
   | some g=>
     refine ⟨(σ++τ).set h1 (HI (64*((L[x]:Nat):Int)+8*(g.1:Int)) (64*((L[x]:Nat):Int)+8*(g.2:Int))), ?_,by rw[List.getElem?_set_self (Ae hc1)],by simp,fun q hq hn=>by rw[List.getElem?_set_ne (fun e=>hn e.symm),List.getElem?_append_left hq]⟩
     simp only[show (Bm.ret=Bm.exit 2)=False from by simp,if_false,if_true,Sm]
   | none=>
     obtain ⟨σ',e3,c3,l3,s3⟩:=bX k hk hI hI2 h0 hL hn1 hn2 s hs1 hLl n (x+1) f (σ++τ) (h.app _) (hA.app _) (hs.app _) hc1 (by omega) (by omega)
     rw[e0] at e3
     refine ⟨σ', ?_,c3,by simp at l3; omega,fun q hq hn=>by rw[s3 q (by simp; omega) hn,List.getElem?_append_left hq]⟩
     simp only[if_true,e3]
def Mj (m:HM) (a:AS):Int × Int × Bool:=match NL m a.l (Br m a.s m.bls.length) with | some g=>(64*(g.1:Int)+8*(g.2.1:Int),64*(g.1:Int)+8*(g.2.2:Int),true) | none=>X8 m
def L5 (m:HM) (a:AS):HM:=match NL m a.l (Br m a.s m.bls.length) with | some g=>m | none=>S7 m a.s
theorem qL (k:Nat) (hk:5000≤k) (h:Ah σ i m) (hA:Ch σ ab i a) (hab:ab ∉ i.l) (ho:a.ok) (hI:Inv m) (hI2:Inv2 m) (h0:B0 m):
  ∃ σ',CH (k+10) (DC ab) σ=some (.tuple #[.agg #[.int .i64 (Mj m a).1,.int .i64 (Mj m a).2.1],.bool (Mj m a).2.2],σ')∧Ah σ' i (L5 m a)∧BM i σ σ':=by
 have hnt:=h.nt
 have hlt:=hA.lt
 have hnl:σ.length ∉ i.l:=fun hm=>Nat.lt_irrefl _ (h.lt _ hm)
 obtain ⟨τ1,s1,e1,g1⟩:=dQ (k+4) (by omega) (h.app [HI 0 0]) (hA.app [HI 0 0])
 have hbl:=KH m a.s m.bls.length
 have hc0:(σ++[HI 0 0]++τ1)[σ.length]?=some (HI 0 0):=by rw[List.getElem?_append_left (by simp)]; simp
 obtain ⟨σ2,e2,c2,l2,k2⟩:=bX (ab:=ab) (a:=a) (i:=i) (k+2) (by omega) hI hI2 h0 (L:=Br m a.s m.bls.length) (fun b hb=>(RC.1 hb).1) (h1:=σ.length) (by omega) hnl s1 (fun x hx=>by have:=(g1.ge x hx).1; simp at this; omega) (by omega) (Br m a.s m.bls.length).length 0 (k+9) (σ++[HI 0 0]++τ1) ((h.app _).app _) ((hA.app _).app _) g1.sl hc0 (by omega) (by omega)
 rw[List.drop_zero] at e2 c2
 have kp:BM i σ σ2:=⟨by simp at l2; omega,fun q hq hm=>by rw[k2 q (by simp; omega) (by omega),List.append_assoc,List.getElem?_append_left hq]⟩
 have h2:Ah σ2 i m:=h.CX fun j hj=>by
  have:=h.lt j hj
  rw[k2 j (by simp; omega) (by omega),List.append_assoc,List.getElem?_append_left this]
 have A2:Ch σ2 ab i a:=hA.UC kp hab
 have hlen:s1.2.1=(Br m a.s m.bls.length).length:=by rw[g1.len]; simp[V2]
 have e1':Bt (k+9) (DC ab) (σ++[HI 0 0])=_:=e1
 have e2':BL (k+9) (k+9) (DC ab) σ.length s1.1 (Br m a.s m.bls.length).length s1.2.2 (((Br m a.s m.bls.length).length:Nat):Int) 0 (σ++[HI 0 0]++τ1)=_:=e2
 unfold Mj L5
 rw[Lu,Jv]
 simp only[Ao,show (AY.cells [.int .i64 0,.int .i64 0] Ey true)=HI 0 0 from rfl,e1',Option.bind_some,Hs,hlen,e2']
 cases hh:NL m a.l (Br m a.s m.bls.length) with
 | some g=>
   rw[hh] at c2
   refine ⟨σ2, ?_,h2,kp⟩
   simp only[show (Bm.ret=Bm.exit 0)=False from by simp,if_false,if_true,Sm,TC,c2,HI]
   rfl
 | none=>
   rw[hh] at c2
   obtain ⟨σ3,e3,h3,k3⟩:=bh k hk h2 A2 hab ho.s0
   have c3:=(k3.same _ (Ae c2) hnl).trans c2
   refine ⟨σ3.set σ.length (HI (X8 m).1 (X8 m).2.1), ?_,h3.CX fun j hj=>List.getElem?_set_ne fun e=>hnl (by rw[e]; exact hj),⟨by have:=kp.len; have:=k3.len; simp; omega,fun q hq hm=>?_⟩⟩
   ·simp only[if_true,e3,Option.bind_some,Yu,List.length_cons,List.length_nil,List.head?_cons,List.tail_cons,av,Au,Nat.zero_add,Nat.reduceAdd,JM,c3,HI,TC]
    simp[AE,Ol,List.getElem?_set_self (Ae c3)]
   ·have:=kp.len
    rw[List.getElem?_set_ne (by omega),k3.same q (by omega) hm,kp.same q hq hm]
end Go.Proofs.YtlaplcglpnlieaaGreat
end
section
namespace Go.Proofs.YtlaplcglpnlieaaGreat
open Go Go.AX
noncomputable local instance vY:AK:=As
local instance uR:Kn:=⟨true⟩
variable {σ:Aa} {b:Nat} {R:List (Nat × Nat)}
def gd (R:List (Nat × Nat)) (x:Nat):Nat × Nat:=R.getD x (0,0)
def G8 (σ:Aa) (b:Nat) (R:List (Nat × Nat)):Prop:=σ[b]?=some (.cells (Bj R) Af true)
structure Fo (b:Nat) (σ σ':Aa):Prop where
 len:σ.length≤σ'.length
 same:∀ q,q<σ.length→q≠b→σ'[q]?=σ[q]?
theorem Fo.refl (σ:Aa):Fo b σ σ:=⟨Nat.le_refl _,fun _ _ _=>rfl⟩
theorem Fo.trans {x y z:Aa} (h:Fo b x y) (g:Fo b y z):Fo b x z:=⟨Nat.le_trans h.len g.len,fun q h1 h2=>(g.same q (Nat.lt_of_lt_of_le h1 h.len) h2).trans (h.same q h1 h2)⟩
theorem Fo.app (σ τ:Aa):Fo b σ (σ++τ):=⟨by simp,fun q h _=>List.getElem?_append_left h⟩
theorem Fo.set (σ:Aa) (o:AY):Fo b σ (σ.set b o):=⟨by simp,fun q _ h=>List.getElem?_set_ne fun e=>h e.symm⟩
theorem G8.app (h:G8 σ b R) (τ:Aa):G8 (σ++τ) b R:=by unfold G8; rw[List.getElem?_append_left (Ae h)]; exact h
theorem G8.ld (h:G8 σ b R) {x:Nat} (hx:x<R.length):Ai .i64 σ b (x*2)=some ((gd R x).1:Int)∧Ai .i64 σ b (x*2+1)=some ((gd R x).2:Int):=by
 obtain ⟨h1,h2⟩:=Xn R x hx
 unfold G8 at h
 exact ⟨by simp only[Ai,G1,h,h1,Option.bind_some,Am]; rfl,by simp only[Ai,G1,h,h2,Option.bind_some,Am]; rfl⟩
theorem cJ:∀ (R:List (Nat × Nat)) (x:Nat) (e:Nat × Nat),x<R.length→AE (Bj R) (x*2) [.int .i64 (e.1:Int),.int .i64 (e.2:Int)]=Bj (R.set x e)
 | g::R,0,e,h=>by simp[Bj,AE]
 | g::R,x+1,e,h=>by
   have ih:=cJ R x e (by simpa using h)
   simp only[List.set_cons_succ,Bj,← ih,AE]
   rw[show (x+1)*2=x*2+1+1 from by omega]
   simp[List.take_succ_cons,List.drop_succ_cons,Nat.add_right_comm]
theorem G8.st (h:G8 σ b R) {x:Nat} (hx:x<R.length) (e:Nat × Nat):JM σ b (x*2) [.int .i64 (e.1:Int),.int .i64 (e.2:Int)]=some (σ.set b (.cells (Bj (R.set x e)) Af true))∧G8 (σ.set b (.cells (Bj (R.set x e)) Af true)) b (R.set x e):=by
 have h':=h
 unfold G8 at h'
 constructor
 ·simp only[JM,h']
  rw[if_pos (by rw[MF]; simp; omega),cJ R x e hx]
 ·unfold G8; rw[List.getElem?_set_self (Ae h)]
theorem oS (R:List (Nat × Nat)) (x y:Nat) (e:Nat × Nat) (hx:x<R.length):gd (R.set x e) y=if y=x then e else gd R y:=by
 unfold gd
 rw[List.getD_eq_getElem?_getD,List.getElem?_set]
 by_cases q:x=y
 ·subst q; rw[if_pos rfl,if_pos rfl,if_pos hx]; rfl
 ·rw[if_neg q,if_neg (fun e=>q e.symm),List.getD_eq_getElem?_getD]
def sw (R:List (Nat × Nat)) (x y:Nat):List (Nat × Nat):=(R.set x (gd R y)).set y (gd R x)
theorem dd (R:List (Nat × Nat)) (x y:Nat):(sw R x y).length=R.length:=by simp[sw]
theorem iP (R:List (Nat × Nat)) (x y z:Nat) (hx:x<R.length) (hy:y<R.length):gd (sw R x y) z=if z=y then gd R x else if z=x then gd R y else gd R z:=by
 unfold sw
 rw[oS _ _ _ _ (by simpa using hy),oS _ _ _ _ hx]
theorem G8.sw (h:G8 σ b R) {x y:Nat} (hx:x<R.length) (hy:y<R.length):
  ∃ σ1 σ2,JM σ b (x*2) [.int .i64 ((gd R y).1:Int),.int .i64 ((gd R y).2:Int)]=some σ1∧JM σ1 b (y*2) [.int .i64 ((gd R x).1:Int),.int .i64 ((gd R x).2:Int)]=some σ2∧G8 σ2 b (sw R x y)∧Fo b σ σ2:=by
 obtain ⟨e1,h1⟩:=h.st hx (gd R y)
 obtain ⟨e2,h2⟩:=h1.st (x:=y) (by simpa using hy) (gd R x)
 exact ⟨_,_,e1,e2,h2,(Fo.set _ _).trans (Fo.set _ _)⟩
abbrev Q9:Value:=.func (.func NJ) #[] #[]
def dm (R:List (Nat × Nat)):Prop:=∀ x,(gd R x).1≤10000∧(gd R x).2≤10000
theorem gn (k:Nat) (e g:Nat × Nat) (he:e.2≤10000) (hg:g.2≤10000) (σ:Aa):∃ τ,Di (k+1) Q9 [.agg #[.int .i64 (e.1:Int),.int .i64 (e.2:Int)],.agg #[.int .i64 (g.1:Int),.int .i64 (g.2:Int)]] σ=some (.int .i64 ((e.2:Int)-(g.2:Int)),σ++τ):=by
 rw[show Q9 = .func (.func NJ) #[] #[] from rfl,N8,LU,JZ]
 simp only[Ao]
 have l1:Ai .i64 (σ++[AY.cells [.int .i64 (e.1:Int),.int .i64 (e.2:Int)] Af true]++[AY.cells [.int .i64 (g.1:Int),.int .i64 (g.2:Int)] Af true]) σ.length 1=some (e.2:Int):=by
  rw[gw _ _ _ (by simp)]; exact (mr _ _ _ _).2
 have l2:=(mr (σ++[AY.cells [.int .i64 (e.1:Int),.int .i64 (e.2:Int)] Af true]) Af (g.1:Int) (g.2:Int)).2
 simp only[Nat.zero_add,l1,l2,Option.bind_some,Ac (show AN ((e.2:Int)-(g.2:Int)) by unfold AN; omega)]
 exact ⟨_,by rw[List.append_assoc]⟩
theorem kC (e g:Nat × Nat):decide ((e.2:Int)-(g.2:Int)<0)=decide (e.2<g.2):=by
 by_cases q:e.2<g.2
 ·rw[decide_eq_true q,decide_eq_true (by omega)]
 ·rw[decide_eq_false q,decide_eq_false (by omega)]
def XT (e g:Nat × Nat):Prop:=e.2<g.2∨(e.2=g.2∧e.1<g.1)
theorem XT.trans {e g h:Nat × Nat} (a:XT e g) (c:XT g h):XT e h:=by unfold XT at *; omega
def Tg (R:List (Nat × Nat)) (lo hi:Nat):Prop:=∀ x y,lo≤x→x<y→y<hi→XT (gd R x) (gd R y)
def OY (R R':List (Nat × Nat)) (lo hi:Nat):Prop:=∀ e,(∃ x,lo≤x∧x<hi∧gd R' x=e)↔(∃ x,lo≤x∧x<hi∧gd R x=e)
def Ss (R R':List (Nat × Nat)) (lo hi:Nat):Prop:=∀ x,x<lo∨hi≤x→gd R' x=gd R x
structure ZW (R R':List (Nat × Nat)) (lo hi:Nat):Prop where
 len:R'.length=R.length
 srt:Tg R' lo hi
 set:OY R R' lo hi
 out:Ss R R' lo hi
theorem dm.of {R':List (Nat × Nat)} {lo hi:Nat} (h:dm R) (hs:OY R R' lo hi) (ho:Ss R R' lo hi):dm R':=by
 intro x
 by_cases q:lo≤x∧x<hi
 ·obtain ⟨y,_,_,hy⟩:=(hs (gd R' x)).1 ⟨x,q.1,q.2,rfl⟩
  rw[← hy]; exact h y
 ·rw[ho x (by omega)]; exact h x
theorem dm.sw (h:dm R) {x y:Nat} (hx:x<R.length) (hy:y<R.length):dm (sw R x y):=by
 intro z
 rw[iP _ _ _ _ hx hy]
 split
 ·exact h x
 ·split
  ·exact h y
  ·exact h z
theorem eH (k:Nat) {a:Nat} (hln:R.length≤3000):∀ (n j f:Nat) (σ:Aa) (R':List (Nat × Nat)),R'.length=R.length→G8 σ b R'→dm R'→j=a+n→j<R.length→Tg R' a j→(∀ x,a≤x→x<j→(gd R' x).1<(gd R' j).1)→n<f →
  ∃ σ' R'',AG (k+1) f (some ⟨b,0,none⟩) R.length R.length (a:Int) Q9 (j:Int) σ=some (.exit 2,[],σ')∧G8 σ' b R''∧ZW R' R'' a (j+1)∧Fo b σ σ'
 | n,j,0,σ,R',hl,h,hS,hj,hjl,hs,hlt,hf=>by omega
 | 0,j,f+1,σ,R',hl,h,hS,hj,hjl,hs,hlt,hf=>by
   rw[Dr,C2]
   refine ⟨σ,R', ?_,h,⟨rfl,fun x y h1 h2 h3=>by omega,fun e=>Iff.rfl,fun x _=>rfl⟩,Fo.refl _⟩
   simp only[decide_eq_false (show ¬ (j:Int)>(a:Int) by omega),cond_false,Option.bind_some]
 | n+1,j,f+1,σ,R',hl,h,hS,hj,hjl,hs,hlt,hf=>by
   obtain ⟨p,rfl⟩:∃ p,j=p+1:=⟨j-1,by omega⟩
   have w1:Ad (((p+1:Nat):Int)-1)=(p:Int):=by rw[Ac (by unfold AN; omega)]; omega
   obtain ⟨l0,l1⟩:=h.ld (x:=p+1) (by omega)
   obtain ⟨l2,l3⟩:=h.ld (x:=p) (by omega)
   obtain ⟨τ,ec⟩:=gn k (gd R' (p+1)) (gd R' p) (hS _).2 (hS _).2 σ
   have q1:(0≤((p+1:Nat):Int)∧((p+1:Nat):Int)<((R.length:Nat):Int))=True:=eq_true (by omega)
   have q2:(0≤((p:Nat):Int)∧((p:Nat):Int)<((R.length:Nat):Int))=True:=eq_true (by omega)
   have h1:=h.app τ
   obtain ⟨m0,m1⟩:=h1.ld (x:=p+1) (by omega)
   obtain ⟨m2,m3⟩:=h1.ld (x:=p) (by omega)
   rw[Dr,C2]
   simp only[decide_eq_true (show ((p+1:Nat):Int)>(a:Int) by omega),cond_true,q1,q2,if_true,w1,Option.bind_some,Int.toNat_natCast,Nat.zero_add,l0,l1,l2,l3,ec,Am,kC,m0,m1,m2,m3]
   by_cases q:(gd R' (p+1)).2<(gd R' p).2
   ·obtain ⟨σ1,σ2,e1,e2,g2,o2⟩:=h1.sw (x:=p+1) (y:=p) (by omega) (by omega)
    have gs:∀ z,gd (sw R' (p+1) p) z=if z=p then gd R' (p+1) else if z=p+1 then gd R' p else gd R' z:=fun z=>iP _ _ _ _ (by omega) (by omega)
    obtain ⟨σ3,R3,e3,g3,d3,o3⟩:=eH k (a:=a) hln n p f σ2 (sw R' (p+1) p) (by rw[dd]; exact hl) g2 (hS.sw (by omega) (by omega)) (by omega) (by omega) (fun x y a1 a2 a3=>by
     rw[gs,gs,if_neg (by omega),if_neg (by omega),if_neg (by omega),if_neg (by omega)]; exact hs x y a1 a2 (by omega)) (fun x a1 a2=>by
     rw[gs,gs,if_neg (by omega),if_neg (by omega),if_pos rfl]; exact hlt x a1 (by omega)) (by omega)
    refine ⟨σ3,R3, ?_,g3,⟨by rw[d3.len,dd], ?_, ?_, ?_⟩,((Fo.app _ _).trans o2).trans o3⟩
    ·simp only[decide_eq_true q,cond_true,e1,Option.bind_some,e2,e3]
    ·intro x y a1 a2 a3
     by_cases q3:y<p+1
     ·exact d3.srt x y a1 a2 q3
     ·obtain rfl:y=p+1:=by omega
      rw[d3.out (p+1) (by omega),gs (p+1),if_neg (by omega),if_pos rfl]
      obtain ⟨z,z1,z2,hz⟩:=(d3.set (gd R3 x)).1 ⟨x,a1,by omega,rfl⟩
      rw[← hz,gs]
      split
      ·exact .inl q
      ·rw[if_neg (by omega)]; exact hs z p z1 (by omega) (by omega)
    ·intro e
     constructor
     ·rintro ⟨x,a1,a2,rfl⟩
      by_cases q3:x<p+1
      ·obtain ⟨z,z1,z2,hz⟩:=(d3.set (gd R3 x)).1 ⟨x,a1,q3,rfl⟩
       rw[← hz,gs]
       split
       ·exact ⟨p+1,by omega,by omega,rfl⟩
       ·rw[if_neg (by omega)]; exact ⟨z,z1,by omega,rfl⟩
      ·obtain rfl:x=p+1:=by omega
       rw[d3.out (p+1) (by omega),gs (p+1),if_neg (by omega),if_pos rfl]
       exact ⟨p,by omega,by omega,rfl⟩
     ·rintro ⟨x,a1,a2,rfl⟩
      by_cases q3:x=p
      ·subst q3
       refine ⟨x+1,by omega,by omega, ?_⟩
       rw[d3.out (x+1) (by omega),gs,if_neg (by omega),if_pos rfl]
      ·have:∃ z,a≤z∧z<p+1∧gd (sw R' (p+1) p) z=gd R' x:=by
        by_cases q4:x=p+1
        ·exact ⟨p,by omega,by omega,by rw[gs,if_pos rfl,q4]⟩
        ·exact ⟨x,a1,by omega,by rw[gs,if_neg q3,if_neg q4]⟩
       obtain ⟨z,z1,z2,z3⟩:=(d3.set (gd R' x)).2 this
       exact ⟨z,z1,by omega,z3⟩
    ·intro x hx
     rw[d3.out x (by omega),gs,if_neg (by omega),if_neg (by omega)]
   ·refine ⟨σ++τ,R', ?_,h1,⟨rfl, ?_,fun e=>Iff.rfl,fun x _=>rfl⟩,Fo.app _ _⟩
    ·simp only[decide_eq_false q,cond_false]
    ·have key:XT (gd R' p) (gd R' (p+1)):=by
      have:=hlt p (by omega) (by omega)
      unfold XT; omega
     intro x y a1 a2 a3
     by_cases q3:y<p+1
     ·exact hs x y a1 a2 q3
     ·obtain rfl:y=p+1:=by omega
      by_cases q4:x=p
      ·subst q4; exact key
      ·exact (hs x p a1 (by omega) (by omega)).trans key
def tF (R:List (Nat × Nat)) (lo hi:Nat):Prop:=∀ x y,lo≤x→x<y→y<hi→(gd R x).1<(gd R y).1
theorem eE (k:Nat) (hk:5000≤k) {a c:Nat} (hln:R.length≤3000) (hc:c≤R.length):∀ (n j f:Nat) (σ:Aa) (R':List (Nat × Nat)),R'.length=R.length→G8 σ b R'→dm R'→c≤j+n→a<j→Tg R' a j→(∀ x y,a≤x→x<y→j≤y→y<c→(gd R' x).1<(gd R' y).1)→n<f →
  ∃ σ' R'',AF (k+1) f (some ⟨b,0,none⟩) R.length R.length (a:Int) (c:Int) Q9 (j:Int) σ=some (.exit 0,[],σ')∧G8 σ' b R''∧ZW R' R'' a (max j c)∧Fo b σ σ'
 | n,j,0,σ,R',hl,h,hS,hj,haj,hs,hlt,hf=>by omega
 | n,j,f+1,σ,R',hl,h,hS,hj,haj,hs,hlt,hf=>by
   rw[Dq,C1]
   by_cases q:j<c
   ·obtain ⟨n,rfl⟩:∃ n',n=n'+1:=⟨n-1,by omega⟩
    obtain ⟨σ1,R1,e1,g1,d1,o1⟩:=eH k (a:=a) hln (j-a) j (k+1) σ R' hl h hS (by omega) (by omega) hs (fun x a1 a2=>hlt x j a1 a2 (Nat.le_refl _) q) (by omega)
    have w1:Ad ((j:Int)+1)=((j+1:Nat):Int):=Ac (by unfold AN; omega)
    obtain ⟨σ2,R2,e2,g2,d2,o2⟩:=eE k hk (a:=a) hln hc n (j+1) f σ1 R1 (d1.len.trans hl) g1 (hS.of d1.set d1.out) (by omega) (by omega) d1.srt (fun x y a1 a2 a3 a4=>by
     rw[d1.out y (by omega)]
     by_cases q2:x<j+1
     ·obtain ⟨z,z1,z2,hz⟩:=(d1.set (gd R1 x)).1 ⟨x,a1,q2,rfl⟩
      rw[← hz]; exact hlt z y z1 (by omega) (by omega) a4
     ·rw[d1.out x (by omega)]; exact hlt x y a1 a2 (by omega) a4) (by omega)
    refine ⟨σ2,R2, ?_,g2,⟨d2.len.trans d1.len, ?_, ?_, ?_⟩,o1.trans o2⟩
    ·simp only[decide_eq_true (show (j:Int)<(c:Int) by omega),cond_true,e1,Option.bind_some,if_true,w1,e2]
    ·rw[show max j c=max (j+1) c from by omega]; exact d2.srt
    ·rw[show max j c=max (j+1) c from by omega]
     intro e
     rw[d2.set e]
     constructor
     ·rintro ⟨x,a1,a2,rfl⟩
      by_cases q2:x<j+1
      ·obtain ⟨z,z1,z2,hz⟩:=(d1.set (gd R1 x)).1 ⟨x,a1,q2,rfl⟩
       exact ⟨z,z1,by omega,hz⟩
      ·exact ⟨x,a1,a2,(d1.out x (by omega)).symm⟩
     ·rintro ⟨x,a1,a2,rfl⟩
      by_cases q2:x<j+1
      ·obtain ⟨z,z1,z2,hz⟩:=(d1.set (gd R' x)).2 ⟨x,a1,q2,rfl⟩
       exact ⟨z,z1,by omega,hz⟩
      ·exact ⟨x,a1,a2,d1.out x (by omega)⟩
    ·intro x hx
     rw[d2.out x (by omega),d1.out x (by omega)]
   ·rw[show max j c=j from by omega]
    refine ⟨σ,R', ?_,h,⟨rfl,hs,fun e=>Iff.rfl,fun x _=>rfl⟩,Fo.refl _⟩
    simp only[decide_eq_false (show ¬ (j:Int)<(c:Int) by omega),cond_false]
theorem Tg.one (a:Nat):Tg R a (a+1):=fun x y h1 h2 h3=>by omega
theorem pa (k:Nat) (hk:5000≤k) {a c:Nat} (hln:R.length≤3000) (hac:a≤c) (hc:c≤R.length) (σ:Aa) (R':List (Nat × Nat)) (hl:R'.length=R.length) (h:G8 σ b R') (hS:dm R') (hI:tF R' a c):
  ∃ σ' R'',A9 (k+2) (some ⟨b,0,none⟩,R.length,R.length) (a:Int) (c:Int) Q9 σ=some (.tuple #[],σ')∧G8 σ' b R''∧ZW R' R'' a c∧Fo b σ σ':=by
 obtain ⟨σ1,R1,e1,g1,d1,o1⟩:=eE k hk (a:=a) hln hc (c-a) (a+1) (k+1) σ R' hl h hS (by omega) (by omega) (Tg.one a) (fun x y a1 a2 a3 a4=>hI x y a1 a2 a4) (by omega)
 have w1:Ad ((a:Int)+1)=((a+1:Nat):Int):=Ac (by unfold AN; omega)
 refine ⟨σ1,R1, ?_,g1, ?_,o1⟩
 ·rw[DY,CS]
  simp only[w1,e1,Option.bind_some,if_true]
 ·by_cases q:a<c
  ·rw[show max (a+1) c=c from by omega] at d1; exact d1
  ·obtain rfl:a=c:=by omega
   rw[show max (a+1) a=a+1 from by omega] at d1
   have e0:gd R1 a=gd R' a:=by
    obtain ⟨z,z1,z2,hz⟩:=(d1.set (gd R1 a)).1 ⟨a,Nat.le_refl _,by omega,rfl⟩
    obtain rfl:z=a:=by omega
    exact hz.symm
   exact ⟨d1.len,fun x y _ _ _=>by omega,fun e=>⟨fun ⟨x,_,_,_⟩=>by omega,fun ⟨x,_,_,_⟩=>by omega⟩,fun x _=>by
    by_cases q2:x=a
    ·rw[q2]; exact e0
    ·exact d1.out x (by omega)⟩
theorem fH (k:Nat) (hln:R.length≤3000) {p q c:Nat} (hpq:p+c≤q) (hq:q+c≤R.length):∀ (n x f:Nat) (σ:Aa) (R':List (Nat × Nat)),R'.length=R.length→G8 σ b R'→x+n=c→n<f →
  ∃ σ' R'',B9 k f (some ⟨b,0,none⟩) R.length R.length (p:Int) (q:Int) (c:Int) (x:Int) σ=some (.exit 0,[],σ')∧G8 σ' b R''∧R''.length=R.length∧(∀ z,gd R'' z=if p+x≤z∧z<p+c then gd R' (z+(q-p)) else if q+x≤z∧z<q+c then gd R' (z-(q-p)) else gd R' z)∧Fo b σ σ'
 | n,x,0,σ,R',hl,h,hx,hf=>by omega
 | 0,x,f+1,σ,R',hl,h,hx,hf=>by
   rw[Gl,EA]
   refine ⟨σ,R', ?_,h,hl,fun z=>by rw[if_neg (by omega),if_neg (by omega)],Fo.refl _⟩
   simp only[decide_eq_false (show ¬ (x:Int)<(c:Int) by omega),cond_false]
 | n+1,x,f+1,σ,R',hl,h,hx,hf=>by
   have w1:Ad ((x:Int)+1)=((x+1:Nat):Int):=Ac (by unfold AN; omega)
   have w2:Ad ((q:Int)+(x:Int))=((q+x:Nat):Int):=Ac (by unfold AN; omega)
   have w3:Ad ((p:Int)+(x:Int))=((p+x:Nat):Int):=Ac (by unfold AN; omega)
   have q1:(0≤((q+x:Nat):Int)∧((q+x:Nat):Int)<((R.length:Nat):Int))=True:=eq_true (by omega)
   have q2:(0≤((p+x:Nat):Int)∧((p+x:Nat):Int)<((R.length:Nat):Int))=True:=eq_true (by omega)
   obtain ⟨l0,l1⟩:=h.ld (x:=q+x) (by omega)
   obtain ⟨l2,l3⟩:=h.ld (x:=p+x) (by omega)
   obtain ⟨σ1,σ2,e1,e2,g2,o2⟩:=h.sw (x:=p+x) (y:=q+x) (by omega) (by omega)
   obtain ⟨σ3,R3,e3,g3,l3',d3,o3⟩:=fH k hln hpq hq n (x+1) f σ2 (sw R' (p+x) (q+x)) (by rw[dd]; exact hl) g2 (by omega) (by omega)
   refine ⟨σ3,R3, ?_,g3,l3',fun z=>?_,o2.trans o3⟩
   ·rw[Gl,EA]
    simp only[decide_eq_true (show (x:Int)<(c:Int) by omega),cond_true,w1,w2,w3,q1,q2,if_true,Option.bind_some,Int.toNat_natCast,Nat.zero_add,l0,l1,l2,l3,e1,e2,e3]
   ·rw[d3 z]
    have gs:∀ z,gd (sw R' (p+x) (q+x)) z=if z=q+x then gd R' (p+x) else if z=p+x then gd R' (q+x) else gd R' z:=fun z=>iP _ _ _ _ (by omega) (by omega)
    by_cases c1:p+(x+1)≤z∧z<p+c
    ·rw[if_pos c1,if_pos (by omega),gs,if_neg (by omega),if_neg (by omega)]
    ·rw[if_neg c1]
     by_cases c2:q+(x+1)≤z∧z<q+c
     ·rw[if_pos c2,if_neg (by omega),if_pos (by omega),gs,if_neg (by omega),if_neg (by omega)]
     ·rw[if_neg c2,gs]
      by_cases c3:z=q+x
      ·rw[if_pos c3,if_neg (by omega),if_pos (by omega)]; congr 1; omega
      ·rw[if_neg c3]
       by_cases c4:z=p+x
       ·rw[if_pos c4,if_pos (by omega)]; congr 1; omega
       ·rw[if_neg c4,if_neg (by omega),if_neg (by omega)]
theorem lH (k:Nat) (hk:5000≤k) (hln:R.length≤3000) {p q c:Nat} (hpq:p+c≤q) (hq:q+c≤R.length) (σ:Aa) (R':List (Nat × Nat)) (hl:R'.length=R.length) (h:G8 σ b R') (v:Value):
  ∃ σ' R'',B4 (k+1) (some ⟨b,0,none⟩,R.length,R.length) (p:Int) (q:Int) (c:Int) v σ=some (.tuple #[],σ')∧G8 σ' b R''∧R''.length=R.length∧(∀ z,gd R'' z=if p≤z∧z<p+c then gd R' (z+(q-p)) else if q≤z∧z<q+c then gd R' (z-(q-p)) else gd R' z)∧Fo b σ σ':=by
 obtain ⟨σ1,R1,e1,g1,l1,d1,o1⟩:=fH k hln hpq hq c 0 k σ R' hl h (by omega) (by omega)
 refine ⟨σ1,R1, ?_,g1,l1,d1,o1⟩
 rw[show ((0:Nat):Int)=0 from rfl] at e1
 rw[LI,Hz]
 simp only[e1,Option.bind_some,if_true]
def ia (R R':List (Nat × Nat)) (s m e:Nat):Prop:=∀ z,gd R' z=if z<s∨e≤z then gd R z else if z<s+(e-m) then gd R (z+(m-s)) else gd R (z-(e-m))
theorem Zd (k:Nat) (hk:5000≤k) (hln:R.length≤3000) {m:Nat} (v:Value):∀ (n i j f:Nat) (σ:Aa) (R':List (Nat × Nat)),R'.length=R.length→G8 σ b R'→1≤i→1≤j→i≤m→m+j≤R.length→i+j≤n→n<f →
  ∃ (σ':Aa) (R'':List (Nat × Nat)) (r:Nat),BR (k+1) f (some ⟨b,0,none⟩) R.length R.length (m:Int) v (i:Int) (j:Int) σ=some (.exit 0,[.int .i64 (r:Int)],σ')∧G8 σ' b R''∧R''.length=R.length∧1≤r∧r≤m∧m+r≤R.length∧(∀ R3,ia R'' R3 (m-r) m (m+r)→ia R' R3 (m-i) m (m+j))∧Fo b σ σ'
 | n,i,j,0,σ,R',hl,h,hi,hj,him,hjm,hn,hf=>by omega
 | n,i,j,f+1,σ,R',hl,h,hi,hj,him,hjm,hn,hf=>by
   rw[LH,Hy]
   by_cases q:i=j
   ·subst q
    refine ⟨σ,R',i, ?_,h,hl,hi,him,hjm,fun R3 h3=>h3,Fo.refl _⟩
    simp only[bne_self_eq_false,cond_false]
   ·simp only[show ((i:Int) != (j:Int))=true from by simp; omega,cond_true]
    by_cases q2:i>j
    ·have w1:Ad ((m:Int)-(i:Int))=((m-i:Nat):Int):=by rw[Ac (by unfold AN; omega)]; omega
     have w2:Ad ((i:Int)-(j:Int))=((i-j:Nat):Int):=by rw[Ac (by unfold AN; omega)]; omega
     obtain ⟨σ1,R1,e1,g1,l1,d1,o1⟩:=lH k hk hln (p:=m-i) (q:=m) (c:=j) (by omega) (by omega) σ R' hl h v
     obtain ⟨σ2,R2,r,e2,g2,l2,r1,r2,r3,t2,o2⟩:=Zd k hk hln v (n-1) (i-j) j f σ1 R1 l1 g1 (by omega) hj (by omega) hjm (by omega) (by omega)
     refine ⟨σ2,R2,r, ?_,g2,l2,r1,r2,r3,fun R3 h3 z=>?_,o1.trans o2⟩
     ·simp only[decide_eq_true (show (i:Int)>(j:Int) by omega),cond_true,w1,w2,e1,Option.bind_some,JG,if_true,GS,e2]
     ·rw[t2 R3 h3 z]
      by_cases c1:z<m-i∨m+j≤z
      ·rw[if_pos (by omega),if_pos c1,d1,if_neg (by omega),if_neg (by omega)]
      ·rw[if_neg c1]
       by_cases c2:z<m-i+(m+j-m)
       ·rw[if_pos (by omega),if_pos c2,d1,if_pos (by omega)]
       ·rw[if_neg c2,if_neg (by omega)]
        by_cases c3:z<m-(i-j)+(m+j-m)
        ·rw[if_pos c3,d1,if_neg (by omega),if_pos (by omega)]; congr 1; omega
        ·rw[if_neg c3,d1,if_neg (by omega),if_neg (by omega)]
    ·have w1:Ad ((m:Int)-(i:Int))=((m-i:Nat):Int):=by rw[Ac (by unfold AN; omega)]; omega
     have w2:Ad ((j:Int)-(i:Int))=((j-i:Nat):Int):=by rw[Ac (by unfold AN; omega)]; omega
     have w3:Ad (Ad ((m:Int)+(j:Int))-(i:Int))=((m+j-i:Nat):Int):=by rw[Ac (show AN ((m:Int)+(j:Int)) by unfold AN; omega),Ac (by unfold AN; omega)]; omega
     obtain ⟨σ1,R1,e1,g1,l1,d1,o1⟩:=lH k hk hln (p:=m-i) (q:=m+j-i) (c:=i) (by omega) (by omega) σ R' hl h v
     obtain ⟨σ2,R2,r,e2,g2,l2,r1,r2,r3,t2,o2⟩:=Zd k hk hln v (n-1) i (j-i) f σ1 R1 l1 g1 hi (by omega) him (by omega) (by omega) (by omega)
     refine ⟨σ2,R2,r, ?_,g2,l2,r1,r2,r3,fun R3 h3 z=>?_,o1.trans o2⟩
     ·simp only[decide_eq_false (show ¬ (i:Int)>(j:Int) by omega),cond_false,w1,w2,w3,e1,Option.bind_some,JG,if_true,GS,e2]
     ·rw[t2 R3 h3 z]
      by_cases c1:z<m-i∨m+j≤z
      ·rw[if_pos (by omega),if_pos c1,d1,if_neg (by omega),if_neg (by omega)]
      ·rw[if_neg c1]
       by_cases c2:z<m-i+(m+j-m)
       ·rw[if_pos c2]
        by_cases c3:z<m-i+(m+(j-i)-m)
        ·rw[if_neg (by omega),if_pos c3,d1]
         by_cases c4:z+(m-(m-i))<m+j-i
         ·rw[if_neg (by omega),if_neg (by omega)]
         ·rw[if_neg (by omega),if_pos (by omega)]; congr 1; omega
        ·by_cases c5:m+(j-i)≤z
         ·exfalso; omega
         ·rw[if_neg (by omega),if_neg c3,d1,if_pos (by omega)]; congr 1; omega
       ·rw[if_neg c2]
        by_cases c3:m+(j-i)≤z
        ·rw[if_pos (by omega),d1,if_neg (by omega),if_pos (by omega)]; congr 1; omega
        ·exfalso; omega
theorem nV (k:Nat) (hk:10000≤k) (hln:R.length≤3000) {s m e:Nat} (hsm:s<m) (hme:m<e) (he:e≤R.length) (σ:Aa) (R':List (Nat × Nat)) (hl:R'.length=R.length) (h:G8 σ b R') (v:Value):
  ∃ σ' R'',Cm (k+2) (some ⟨b,0,none⟩,R.length,R.length) (s:Int) (m:Int) (e:Int) v σ=some (.tuple #[],σ')∧G8 σ' b R''∧R''.length=R.length∧ia R' R'' s m e∧Fo b σ σ':=by
 have w1:Ad ((m:Int)-(s:Int))=((m-s:Nat):Int):=by rw[Ac (by unfold AN; omega)]; omega
 have w2:Ad ((e:Int)-(m:Int))=((e-m:Nat):Int):=by rw[Ac (by unfold AN; omega)]; omega
 obtain ⟨σ1,R1,r,e1,g1,l1,r1,r2,r3,t1,o1⟩:=Zd k (by omega) hln (m:=m) v (e-s) (m-s) (e-m) (k+1) σ R' hl h (by omega) (by omega) (by omega) (by omega) (by omega) (by omega)
 have w3:Ad ((m:Int)-(r:Int))=((m-r:Nat):Int):=by rw[Ac (by unfold AN; omega)]; omega
 obtain ⟨σ2,R2,e2,g2,l2,d2,o2⟩:=lH k (by omega) hln (p:=m-r) (q:=m) (c:=r) (by omega) (by omega) σ1 R1 l1 g1 v
 refine ⟨σ2,R2, ?_,g2,l2, ?_,o1.trans o2⟩
 ·rw[Nn,IQ]
  simp only[w1,w2,e1,Option.bind_some,if_true,Ds,w3,e2,JG]
 ·have:=t1 R2 (fun z=>by
   rw[d2 z]
   by_cases c1:z<m-r∨m+r≤z
   ·rw[if_pos c1,if_neg (by omega),if_neg (by omega)]
   ·rw[if_neg c1]
    by_cases c2:z<m
    ·rw[if_pos (by omega),if_pos (by omega)]
    ·rw[if_neg (by omega),if_pos (by omega),if_neg (by omega)]; congr 1; omega)
  rw[show m-(m-s)=s from by omega,show m+(e-m)=e from by omega] at this
  exact this
end Go.Proofs.YtlaplcglpnlieaaGreat
end
