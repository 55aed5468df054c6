/- The executor is sound.; Functions: the executor is sound.; Words in which the printed functions are written.; Laws of the words in which the printed f -/
import Derived.LoopN
import Derived.Test.YtlaplcglpnlieaaGreatP5
set_option linter.unusedVariables false
set_option linter.unusedSimpArgs false
set_option linter.unusedSectionVars false
section
namespace Go.AX
open Go
variable {ρ:Type} {P:Program} [AF]
theorem WD {regs:B4} {r:Ay}:∀ {os:List (Nat × Kd)} {K:List Value→Option Ay},bG regs os K=some r → ∃ vs,vs.length=os.length∧(∀ (j:Nat) t k,os[j]?=some (t,k)→regs.getD t none=vs[j]?)∧K vs=some r
 | [],K,h=>⟨[],rfl,by simp,h⟩
 | (t,k)::os,K,h=>by
   simp only[bG,Option.bind_eq_some_iff] at h
   obtain ⟨v,hv,h⟩:=h
   obtain ⟨vs,h1,h2,h3⟩:=WD h
   refine ⟨v::vs,by simp[h1], ?_,h3⟩
   intro j t' k' hj
   cases j with
   | zero=>simp at hj; obtain ⟨rfl,rfl⟩:=hj; simpa using hv
   | succ j=>simpa using h2 j t' k' (by simpa using hj)
theorem Vc:∀ {os:List (Nat × Kd)} {vs:List Value} {regs:B4},(YC os vs regs).length=regs.length ∧
  ∀ (t:Nat) (v:Value),(YC os vs regs).getD t none=some v→(∃ (j:Nat) (k:Kd),os[j]?=some (t,k)∧vs[j]?=some v)∨regs.getD t none=some v
 | [],vs,regs=>⟨by cases vs <;> rfl,fun t v h=>.inr (by cases vs <;> exact h)⟩
 | (t0,k0)::os,[],regs=>⟨rfl,fun t v h=>.inr h⟩
 | (t0,k0)::os,v0::vs,regs=>by
   obtain ⟨h1,h2⟩:=Vc (os:=os) (vs:=vs) (regs:=regs.set t0 (some v0))
   refine ⟨by simp only[YC]; rw[h1]; simp,fun t v h=>?_⟩
   simp only[YC] at h
   rcases h2 t v h with ⟨j,k,hj1,hj2⟩ | h
   ·exact .inl ⟨j+1,k,by simpa using hj1,by simpa using hj2⟩
   ·rw[LI] at h
    split at h
    ·rename_i hc
     cases h
     exact .inl ⟨0,k0,by rw[hc.1]; rfl,rfl⟩
    ·exact .inr h
theorem Yt:∀ {ts:List Nat} {regs:B4},(forget.go ts regs).length=regs.length ∧ ∀ (t:Nat) (v:Value),(forget.go ts regs).getD t none=some v→t ∉ ts∧regs.getD t none=some v
 | [],regs=>⟨rfl,fun t v h=>⟨by simp,h⟩⟩
 | t0::ts,regs=>by
   obtain ⟨h1,h2⟩:=Yt (ts:=ts) (regs:=regs.set t0 none)
   refine ⟨by simp only[forget.go]; rw[h1]; simp,fun t v h=>?_⟩
   obtain ⟨g1,g2⟩:=h2 t v h
   rw[LI] at g2
   split at g2
   ·cases g2
   ·rename_i hc
    refine ⟨?_,g2⟩
    rw[List.mem_cons]
    rintro (rfl | h')
    ·have:t<regs.length:=by
      rcases Nat.lt_or_ge t regs.length with h | h
      ·exact h
      ·rw[List.getD_eq_getElem?_getD,List.getElem?_eq_none h] at g2; cases g2
     exact hc ⟨rfl,this⟩
    ·exact g1 h'
theorem Zt {x:Bm} {K:Bm→List (Nat × Kd)→Option ρ} {r:ρ}:∀ {es:List (Bm × List (Nat × Kd))},YF x K es=some r → ∃ outs,fF x es=some outs∧K x outs=some r
 | [],h=>by cases h
 | e::es,h=>by
   simp only[YF] at h
   simp only[fF]
   split at h
   ·rename_i hx
    rw[if_pos hx]
    rw[hx]
    exact ⟨e.2,rfl,h⟩
   ·rename_i hx
    rw[if_neg hx]
    exact Zt h
theorem MP {h:Hint} {c:Code} {regs regs':B4} {x:Bm} {σ':Aa} {r1:Ay} {K:Bm→B4→Aa→Option ρ} {r:ρ} (hp:pack h.exits x regs' σ'=some r1) (hu:unpack h c regs r1 K=some r):
  ∃ regs2,K x regs2 σ'=some r∧regs2.length=regs.length ∧ ∀ (t:Nat) (v:Value),regs2.getD t none=some v→regs'.getD t none=some v∨(t ∉ QP c∧regs.getD t none=some v):=by
 unfold pack at hp
 simp only[Option.bind_eq_some_iff] at hp
 obtain ⟨outs,ho,hp⟩:=hp
 obtain ⟨vs,hl,hv,hk⟩:=WD hp
 cases hk
 unfold unpack at hu
 obtain ⟨outs',ho',hu⟩:=Zt hu
 simp only at ho'
 rw[ho] at ho'; cases ho'
 obtain ⟨h1,h2⟩:=Yb hu
 simp only at h2
 rw[List.length_map,← hl,List.take_length] at h2
 refine ⟨_,h2, ?_,fun t v hv'=>?_⟩
 ·rw[Vc.1]; exact Yt.1
 ·rcases Vc.2 t v hv' with ⟨j,k,g1,g2⟩ | g
  ·left; rw[hv j t k g1]; exact g2
  ·right; exact Yt.2 t v g
theorem RC {live:List Nat}:∀ {regs:B4} {i:Nat},(Q3 live i regs).length=regs.length ∧ ∀ (t:Nat) (v:Value),(Q3 live i regs).getD t none=some v→regs.getD t none=some v
 | [],i=>⟨rfl,fun t v h=>h⟩
 | r::rs,i=>by
   obtain ⟨h1,h2⟩:=RC (live:=live) (regs:=rs) (i:=i+1)
   refine ⟨by simp[Q3,h1],fun t v h=>?_⟩
   cases t with
   | zero=>
     simp only[Q3,List.getD_cons_zero] at h ⊢
     split at h
     ·exact h
     ·cases h
   | succ t=>
     simp only[Q3,List.getD_cons_succ] at h ⊢
     exact h2 t v h
theorem Zc (live:List Nat) (regs:B4):Lh regs (bA live regs):=fun t v h=>RC.2 t v h
theorem VW (live:List Nat) (regs:B4):(bA live regs).length=regs.length:=RC.1
inductive ZR:Bm→Exit→Prop
 | normal:ZR .normal .normal
 | exit (id:Nat):ZR (.exit id) (.exit id)
 | ret:ZR .ret .ret
def Ul (P:Program) (c:Code) (K:Bm→B4→Aa→Option ρ) (r:ρ) (a:Act) (μ:Mu) (σ:Aa) (w:World) (e:Exit) (a':Act) (w':World):Prop:=
 ∃ x regs' σ' μ',ZR x e∧K x regs' σ'=some r∧R P μ' σ' w'∧Step μ σ w μ' σ' w'∧NT μ' regs' a'.tmps∧a'.defers=[]∧a'.tmps.size=a.tmps.size ∧ ∀ t,t ∉ QP c→a'.tmps[t]?=a.tmps[t]?
def ZQ (P:Program) (c:Code) (regs:B4) (σ:Aa) (K:Bm→B4→Aa→Option ρ) (r:ρ):Prop:=
 (∃ x regs' σ',K x regs' σ'=some r∧σ.length≤σ'.length) ∧
 ∀ hi,(∀ x regs' σ',K x regs' σ'=some r→σ'.length≤hi) → ∀ (a:Act) (μ:Mu) (w:World),R P μ σ w→Ii μ σ.length hi→NT μ regs a.tmps→a.defers=[]→c.wp P (Ul P c K r a μ σ w) a w
theorem Zd {l:List Oper} {t:Nat} (h:t ∉ ZF l):∀ o ∈ l,o.dst≠some t:=by
 induction l with
 | nil=>simp
 | cons o l ih=>
   simp only[ZF,List.mem_append,not_or] at h
   intro o' ho'
   rcases List.mem_cons.1 ho' with rfl | ho'
   ·intro hd; rw[hd] at h; simp at h
   ·exact ih h.2 o' ho'
theorem UY {c:Code} {Q Q':Exit→Act→World→Prop} (hq:∀ e a w,Q e a w→Q' e a w):∀ (n:Nat) (a:Act) (w:World),Code.rounds P c Q n a w→Code.rounds P c Q' n a w
 | 0,_,_,h=>h.elim
 | n+1,a,w,h=>by
   rw[rounds_succ] at h ⊢
   refine wp_mono h fun e a1 w1 h1=>?_
   cases e with
   | normal=>exact UY hq n a1 w1 h1
   | _=>exact hq _ _ _ h1
theorem ZQ.mono_post {c:Code} {K:Bm→B4→Aa→Option ρ} {r:ρ} {a:Act} {μ:Mu} {σ:Aa} {w:World} {e:Exit} {a':Act} {w':World} {c2:Code} (h:Ul P c K r a μ σ w e a' w') (hd:∀ t,t ∉ QP c2→t ∉ QP c):Ul P c2 K r a μ σ w e a' w':=by
 obtain ⟨x,regs',σ',μ',h1,h2,h3,h4,h5,h6,h7,h8⟩:=h
 exact ⟨x,regs',σ',μ',h1,h2,h3,h4,h5,h6,h7,fun t ht=>h8 t (hd t ht)⟩
theorem pW (hmix:P.follows .mixedOrders=true) {call:Ho} (hcall:SK P call) {H:Hints} {n:Nat}:∀ (c:Code) {ρ:Type} {regs:B4} {σ:Aa} {K:Bm→B4→Aa→Option ρ} {r:ρ},
  exec P call H n c ρ regs σ K=some r→ZQ P c regs σ K r:=by
 intro c
 induction c with
 | skip=>
   intro ρ regs σ K r h
   simp only[exec] at h
   exact ⟨⟨_,_,_,h,Nat.le_refl _⟩,fun hi hhi a μ w hR hfr hreg hdef=>wp_skip ⟨.normal,regs,σ,μ,.normal,h,hR,Step.refl _ _ _,hreg,hdef,rfl,fun _ _=>rfl⟩⟩
 | region id ops draw=>
   intro ρ regs σ K r h
   simp only[exec] at h
   cases hdr:(draw && !Wr P ops.toList (Q5 P ops.toList draw)) with
   | true=>rw[hdr] at h; cases h
   | false=>
     rw[hdr] at h
     simp only[cond_false] at h
     obtain ⟨regs',E',σ',htr,hw,hl,hK⟩:=S8 hcall _ h (Lh.refl _) rfl
     refine ⟨⟨_,_,_,hK,htr.len.1⟩,fun hi hhi a μ w hR hfr hreg hdef=>?_⟩
     have hle:=hhi _ _ _ hK
     cases draw with
     | true=>
       have hd:Wr P ops.toList (Q5 P ops.toList true)=true:=by simpa using hdr
       refine pU hmix htr hd hle a μ w hR hfr hreg ?_
       intro a' μ' w' h1 h2 h3 h4 h5 h6
       exact ⟨.normal,regs',σ',μ',.normal,hK,h1,h2,h3.qF hw (by omega),h4.trans hdef,h5,fun t ht=>h6 t (Zd ht)⟩
     | false=>
       refine wp_region ?_
       have:=sQ (P:=P) (all:=ops) (Q:=Ul P (.region id ops false) K r a μ σ w) htr (by
        intro io hio
        simp only[List.mem_map] at hio
        obtain ⟨x,hx,rfl⟩:=hio
        have:=List.mem_zipIdx_iff_getElem?.1 hx
        simpa using this) hle a μ w hR hfr hreg (by
        intro a' μ' w' h1 h2 h3 h4 h5 h6
        refine ⟨.normal,regs',σ',μ',.normal,hK,h1,h2,h3.qF hw (by omega),h4.trans hdef,h5,fun t ht=>h6 t ?_⟩
        intro io hio
        simp only[List.mem_map] at hio
        obtain ⟨x,hx,rfl⟩:=hio
        have:=List.mem_zipIdx_iff_getElem?.1 hx
        exact Zd ht _ (List.mem_of_getElem? this))
       have hm:(ops.toList.zipIdx.map fun x=>(x.2,x.1)).map (·.1)=List.range ops.size:=by
        rw[List.map_map]
        show ops.toList.zipIdx.map (fun x=>x.2)=_
        simp[List.zipIdx_map_snd,List.range_eq_range']
       rw[hm] at this
       exact this
 | seq x y ihx ihy=>
   intro ρ regs σ K r h
   simp only[exec] at h
   obtain ⟨⟨x1,regs1,σ1,hK1,hl1⟩,hwp⟩:=ihx h
   have hb:∀ (x:Bm) (regs':B4) (σ':Aa),(match x with
     | .normal=>exec P call H n y ρ regs' σ' K
     | .exit id=>K (.exit id) regs' σ'
     | .ret=>K .ret regs' σ')=some r → ∃ x2 regs2 σ2,K x2 regs2 σ2=some r∧σ'.length≤σ2.length:=by
    intro x regs' σ' hq
    cases x with
    | normal=>exact (ihy hq).1
    | exit id=>exact ⟨_,_,_,hq,Nat.le_refl _⟩
    | ret=>exact ⟨_,_,_,hq,Nat.le_refl _⟩
   refine ⟨?_,fun hi hhi a μ w hR hfr hreg hdef=>?_⟩
   ·obtain ⟨x2,regs2,σ2,h1,h2⟩:=hb x1 regs1 σ1 hK1
    exact ⟨x2,regs2,σ2,h1,Nat.le_trans hl1 h2⟩
   ·refine wp_seq (wp_mono (hwp hi (fun x' regs' σ' hq=>?_) a μ w hR hfr hreg hdef) ?_)
    ·obtain ⟨x2,regs2,σ2,h1,h2⟩:=hb x' regs' σ' hq
     exact Nat.le_trans h2 (hhi _ _ _ h1)
    ·rintro e a1 w1 ⟨x',regs',σ',μ',hx,hq,g1,g2,g3,g4,g5,g6⟩
     cases hx with
     | normal=>
       simp only[Exit.then]
       refine wp_mono ((ihy hq).2 hi hhi a1 μ' w1 g1 (hfr.step g2) g3 g4) ?_
       rintro e2 a2 w2 ⟨x2,regs2,σ2,μ2,k1,k2,k3,k4,k5,k6,k7,k8⟩
       exact ⟨x2,regs2,σ2,μ2,k1,k2,k3,g2.trans k4,k5,k6,k7.trans g5,fun t ht=>by
        simp only[QP,List.mem_append,not_or] at ht
        rw[k8 t ht.2,g6 t ht.1]⟩
     | exit id=>
       exact ⟨.exit id,regs',σ',μ',.exit id,hq,g1,g2,g3,g4,g5,fun t ht=>g6 t (by simp only[QP,List.mem_append,not_or] at ht; exact ht.1)⟩
     | ret=>
       exact ⟨.ret,regs',σ',μ',.ret,hq,g1,g2,g3,g4,g5,fun t ht=>g6 t (by simp only[QP,List.mem_append,not_or] at ht; exact ht.1)⟩
 | cond c x y ihx ihy=>
   intro ρ regs σ K r h
   simp only[exec] at h
   split at h
   rotate_left
   ·cases h
   rename_i b hb
   split at h
   ·
    cases b with
    | true=>
      simp only[cond_true] at h
      obtain ⟨hlen,hwp⟩:=ihx h
      refine ⟨hlen,fun hi hhi a μ w hR hfr hreg hdef=>?_⟩
      have hc:=hreg.ev c _ hb
      refine wp_cond_true (by generalize a.eval c=v at hc; cases hc; rfl) (wp_mono (hwp hi hhi a μ w hR hfr hreg hdef) fun e a' w' hq=>ZQ.mono_post hq fun t ht=>by simp only[QP,List.mem_append,not_or] at ht; exact ht.1)
    | false=>
      simp only[cond_false] at h
      obtain ⟨hlen,hwp⟩:=ihy h
      refine ⟨hlen,fun hi hhi a μ w hR hfr hreg hdef=>?_⟩
      have hc:=hreg.ev c _ hb
      refine wp_cond_false (by generalize a.eval c=v at hc; cases hc; rfl) (wp_mono (hwp hi hhi a μ w hR hfr hreg hdef) fun e a' w' hq=>ZQ.mono_post hq fun t ht=>by simp only[QP,List.mem_append,not_or] at ht; exact ht.2)
   ·
    rename_i hint hH
    simp only[Option.bind_eq_some_iff] at h
    obtain ⟨r1,h1,h2⟩:=h
    have join:∀ (z:Code),(∀ t,t ∉ QP (.seq x y)→t ∉ QP z)→ZQ P z regs σ (pack hint.exits) r1 →
      (∃ x' regs' σ',K x' regs' σ'=some r∧σ.length≤σ'.length) ∧ ∀ hi,(∀ x' regs' σ',K x' regs' σ'=some r→σ'.length≤hi) → ∀ (a:Act) (μ:Mu) (w:World),R P μ σ w→Ii μ σ.length hi→NT μ regs a.tmps→a.defers=[]→z.wp P (Ul P (.cond c x y) K r a μ σ w) a w:=by
     intro z hz ⟨⟨x1,regs1,σ1,hp1,hl1⟩,hwp⟩
     refine ⟨?_,fun hi hhi a μ w hR hfr hreg hdef=>?_⟩
     ·obtain ⟨regs2,g1,g2,g3⟩:=MP hp1 h2
      exact ⟨x1,regs2,σ1,g1,hl1⟩
     ·refine wp_mono (hwp hi (fun x' regs' σ' hq=>?_) a μ w hR hfr hreg hdef) ?_
      ·obtain ⟨regs2,g1,_,_⟩:=MP hq h2
       exact hhi _ _ _ g1
      ·rintro e a1 w1 ⟨x',regs',σ',μ',hx,hq,g1,g2,g3,g4,g5,g6⟩
       obtain ⟨regs2,k1,k2,k3⟩:=MP hq h2
       have hle:μ.le μ':=g2.le (hfr.sub (Nat.le_refl _) (hhi _ _ _ k1))
       refine ⟨x',regs2,σ',μ',hx,k1,g1,g2,⟨by rw[k2,g5]; exact hreg.1,fun t v hv=>?_⟩,g4,g5,fun t ht=>g6 t (hz t ht)⟩
       rcases k3 t v hv with hv | ⟨ht,hv⟩
       ·exact g3.2 t v hv
       ·obtain ⟨v',q1,q2⟩:=hreg.2 t v hv
        exact ⟨v',by rw[g6 t (hz t ht)]; exact q1,q2.mono hle⟩
    cases b with
    | true=>
      simp only[cond_true] at h1
      obtain ⟨j1,j2⟩:=join x (fun t ht=>by simp only[QP,List.mem_append,not_or] at ht; exact ht.1) (ihx h1)
      refine ⟨j1,fun hi hhi a μ w hR hfr hreg hdef=>?_⟩
      have hc:=hreg.ev c _ hb
      exact wp_cond_true (by generalize a.eval c=v at hc; cases hc; rfl) (j2 hi hhi a μ w hR hfr hreg hdef)
    | false=>
      simp only[cond_false] at h1
      obtain ⟨j1,j2⟩:=join y (fun t ht=>by simp only[QP,List.mem_append,not_or] at ht; exact ht.2) (ihy h1)
      refine ⟨j1,fun hi hhi a μ w hR hfr hreg hdef=>?_⟩
      have hc:=hreg.ev c _ hb
      exact wp_cond_false (by generalize a.eval c=v at hc; cases hc; rfl) (j2 hi hhi a μ w hR hfr hreg hdef)
 | block id c ih=>
   intro ρ regs σ K r h
   simp only[exec] at h
   obtain ⟨⟨x1,regs1,σ1,hK1,hl1⟩,hwp⟩:=ih h
   have hb:∀ (x:Bm) (regs':B4) (σ':Aa),(match x with
     | .normal=>K .normal regs' σ'
     | .exit id'=>if id'=id then K .normal regs' σ' else K (.exit id') regs' σ'
     | .ret=>K .ret regs' σ')=some r → ∃ x2,K x2 regs' σ'=some r∧(∀ e,ZR x e → ∀ (Q:Exit→Act→World→Prop) a w,(∀ e2,ZR x2 e2→Q e2 a w)→Exit.inBlock id Q e a w):=by
    intro x regs' σ' hq
    cases x with
    | normal=>exact ⟨_,hq,fun e he Q a w hQ=>by cases he; exact hQ _ .normal⟩
    | exit id'=>
      simp only at hq
      split at hq
      ·rename_i hid
       refine ⟨_,hq,fun e he Q a w hQ=>?_⟩
       cases he
       simp only[Exit.inBlock,hid,if_true]
       exact hQ _ .normal
      ·rename_i hid
       refine ⟨_,hq,fun e he Q a w hQ=>?_⟩
       cases he
       simp only[Exit.inBlock,hid,if_false]
       exact hQ _ (.exit id')
    | ret=>exact ⟨_,hq,fun e he Q a w hQ=>by cases he; exact hQ _ .ret⟩
   refine ⟨?_,fun hi hhi a μ w hR hfr hreg hdef=>?_⟩
   ·obtain ⟨x2,h2,_⟩:=hb x1 regs1 σ1 hK1
    exact ⟨x2,regs1,σ1,h2,hl1⟩
   ·refine wp_block (wp_mono (hwp hi (fun x' regs' σ' hq=>?_) a μ w hR hfr hreg hdef) ?_)
    ·obtain ⟨x2,h2,_⟩:=hb x' regs' σ' hq
     exact hhi _ _ _ h2
    ·rintro e a1 w1 ⟨x',regs',σ',μ',hx,hq,g1,g2,g3,g4,g5,g6⟩
     obtain ⟨x2,h2,h3⟩:=hb x' regs' σ' hq
     exact h3 e hx _ a1 w1 fun e2 he2=>⟨x2,regs',σ',μ',he2,h2,g1,g2,g3,g4,g5,g6⟩
 | loop c ih=>
   intro ρ regs σ K r h
   simp only[exec] at h
   split at h
   ·cases h
   rename_i hint hH
   simp only[Option.bind_eq_some_iff] at h
   obtain ⟨r1,h1,h2⟩:=h
   have rounds:∀ (m:Nat) (regs1:B4) (σ1:Aa),Zb (fun regs σ K=>exec P call H n c Ay regs σ K) hint m regs1 σ1=some r1 →
     (∃ x' regs',pack hint.exits x' regs' r1.2.2=some r1∧σ1.length≤r1.2.2.length) ∧
     ∀ hi,r1.2.2.length≤hi → ∀ (a:Act) (μ:Mu) (w:World),R P μ σ1 w→Ii μ σ1.length hi→NT μ regs1 a.tmps→a.defers=[] →
      Code.rounds P c (fun e a' w'=>∃ x' regs' μ',ZR x' e∧x' ≠ .normal∧pack hint.exits x' regs' r1.2.2=some r1∧R P μ' r1.2.2 w'∧Step μ σ1 w μ' r1.2.2 w'∧NT μ' regs' a'.tmps∧a'.defers=[]∧a'.tmps.size=a.tmps.size ∧ ∀ t,t ∉ QP c→a'.tmps[t]?=a.tmps[t]?) m a w:=by
    intro m
    induction m with
    | zero=>intro regs1 σ1 hq; cases hq
    | succ m ihm=>
      intro regs1 σ1 hq
      simp only[Zb] at hq
      obtain ⟨⟨x1,regs2,σ2,hK1,hl1⟩,hwp⟩:=ih hq
      have hpk:∀ (x:Bm) (regs':B4) (σ':Aa),pack hint.exits x regs' σ'=some r1→σ'=r1.2.2:=by
       intro x regs' σ' hp
       unfold pack at hp
       simp only[Option.bind_eq_some_iff] at hp
       obtain ⟨outs,_,hp⟩:=hp
       obtain ⟨vs,_,_,hk⟩:=WD hp
       cases hk; rfl
      have hb:∀ (x:Bm) (regs':B4) (σ':Aa),(match x with
        | .normal=>Zb (fun regs σ K=>exec P call H n c Ay regs σ K) hint m (bA hint.live regs') σ'
        | x=>pack hint.exits x regs' σ')=some r1→σ'.length≤r1.2.2.length:=by
       intro x regs' σ' hq
       cases x with
       | normal=>obtain ⟨_,_,_,hl⟩:=(ihm _ _ hq).1; exact hl
       | exit id=>rw[hpk _ _ _ hq]; exact Nat.le_refl _
       | ret=>rw[hpk _ _ _ hq]; exact Nat.le_refl _
      refine ⟨?_,fun hi hhi a μ w hR hfr hreg hdef=>?_⟩
      ·cases x1 with
       | normal=>obtain ⟨x',regs',hp,hl⟩:=(ihm _ _ hK1).1; exact ⟨x',regs',hp,Nat.le_trans hl1 hl⟩
       | exit id=>have:=hpk _ _ _ hK1; subst this; exact ⟨_,_,hK1,hl1⟩
       | ret=>have:=hpk _ _ _ hK1; subst this; exact ⟨_,_,hK1,hl1⟩
      ·rw[rounds_succ]
       refine wp_mono (hwp hi (fun x' regs' σ' hq=>Nat.le_trans (hb x' regs' σ' hq) hhi) a μ w hR hfr hreg hdef) ?_
       rintro e a1 w1 ⟨x',regs',σ',μ',hx,hq,g1,g2,g3,g4,g5,g6⟩
       cases hx with
       | normal=>
         simp only[Exit.then]
         have:=(ihm _ _ hq).2 hi hhi a1 μ' w1 g1 (hfr.step g2) (g3.qF (Zc _ _) (by rw[VW]; exact Nat.le_refl _)) g4
         refine UY ?_ _ _ _ this
         rintro e2 a2 w2 ⟨x2,regs2,μ2,k1,k1',k2,k3,k4,k5,k6,k7,k8⟩
         exact ⟨x2,regs2,μ2,k1,k1',k2,k3,g2.trans k4,k5,k6,k7.trans g5,fun t ht=>by rw[k8 t ht,g6 t ht]⟩
       | exit id=>
         have:=hpk _ _ _ hq; subst this
         exact ⟨.exit id,regs',μ',.exit id,by simp,hq,g1,g2,g3,g4,g5,g6⟩
       | ret=>
         have:=hpk _ _ _ hq; subst this
         exact ⟨.ret,regs',μ',.ret,by simp,hq,g1,g2,g3,g4,g5,g6⟩
   obtain ⟨⟨x1,regs1,hp1,hl1⟩,hwp⟩:=rounds n _ _ h1
   refine ⟨?_,fun hi hhi a μ w hR hfr hreg hdef=>?_⟩
   ·obtain ⟨regs2,g1,_,_⟩:=MP hp1 h2
    exact ⟨x1,regs2,_,g1,hl1⟩
   ·obtain ⟨regs2',g1',_,_⟩:=MP hp1 h2
    have hle':=hhi _ _ _ g1'
    refine wp_loop_rounds n (UY ?_ _ _ _ (hwp hi hle' a μ w hR hfr (hreg.qF (Zc _ _) (by rw[VW]; exact Nat.le_refl _)) hdef))
    rintro e a1 w1 ⟨x',regs',μ',hx,_,hq,g1,g2,g3,g4,g5,g6⟩
    obtain ⟨regs2,k1,k2,k3⟩:=MP hq h2
    have hle:μ.le μ':=g2.le (hfr.sub (Nat.le_refl _) hle')
    refine ⟨x',regs2,_,μ',hx,k1,g1,g2,⟨by rw[k2,g5]; exact hreg.1,fun t v hv=>?_⟩,g4,g5,g6⟩
    rcases k3 t v hv with hv | ⟨ht,hv⟩
    ·exact g3.2 t v hv
    ·obtain ⟨v',q1,q2⟩:=hreg.2 t v hv
     exact ⟨v',by rw[g6 t ht]; exact q1,q2.mono hle⟩
 | exit id=>
   intro ρ regs σ K r h
   simp only[exec] at h
   exact ⟨⟨_,_,_,h,Nat.le_refl _⟩,fun hi hhi a μ w hR hfr hreg hdef=>wp_exit ⟨.exit id,regs,σ,μ,.exit id,h,hR,Step.refl _ _ _,hreg,hdef,rfl,fun _ _=>rfl⟩⟩
 | ret=>
   intro ρ regs σ K r h
   simp only[exec] at h
   exact ⟨⟨_,_,_,h,Nat.le_refl _⟩,fun hi hhi a μ w hR hfr hreg hdef=>wp_ret ⟨.ret,regs,σ,μ,.ret,h,hR,Step.refl _ _ _,hreg,hdef,rfl,fun _ _=>rfl⟩⟩
 | _=>intros; rename_i h; simp only[exec] at h; cases h
end Go.AX
end
section
namespace Go.AX
open Go
variable {ρ:Type} {P:Program} [AF]
def kz (tmps:Array Value) (r:ResultVar):Sem Value:=
 match r with
 | .tmp t=>pure (tmps.getD t undef)
 | .cell a t=>do loadVar t (← asAddr (tmps.getD a undef))
theorem iE {μ:Mu} {σ:Aa} {w:World} {regs:B4} {tmps:Array Value} (hR:R P μ σ w) (hreg:NT μ regs tmps) {r:ResultVar} {v:Value} (h:fK P regs σ r=some v):
  ∃ v',RV μ v v'∧(kz tmps r).run P w = .ok v' w:=by
 cases r with
 | tmp t=>
   simp only[fK] at h
   obtain ⟨v',h1,h2⟩:=hreg.2 t v h
   refine ⟨v',h2, ?_⟩
   simp[kz,Array.getD_eq_getD_getElem?,h1]
 | cell t T=>
   simp only[fK,Option.bind_eq_some_iff] at h
   obtain ⟨u,hu,h⟩:=h
   obtain ⟨u',h1,h2⟩:=hreg.2 t u hu
   split at h
   ·rename_i a
    obtain ⟨k,hk,hv⟩:=bW h2
    have hget:tmps.getD t undef = .pointer (some ⟨k.b,k.o+a.off,none⟩):=by simp[Array.getD_eq_getD_getElem?,h1,hv]
    cases hb:Lr P T with
    | true=>
      rw[hb] at h
      simp only[cond_true,Option.bind_eq_some_iff] at h
      obtain ⟨s,hs,vs,hvs,h⟩:=h
      cases h
      obtain ⟨hl,hld⟩:=N1 hvs
      obtain ⟨vs',hr,hrun,hleaf⟩:=KR hR hk hl hld
      obtain ⟨d,hd⟩:∃ d,P.underlying T=some d:=by
       unfold Lr at hb; cases hq:P.underlying T with
       | none=>simp[hq] at hb
       | some d=>exact ⟨d,rfl⟩
      refine ⟨.agg vs'.toArray,.agg (by simpa using hr) (by simpa using hleaf), ?_⟩
      simp only[kz,hget,asAddr,Sem.run_bind,Sem.run_pure,Result.andThen_ok,loadVar,ML hd,hb,if_true,run_sizeOf hs,hrun]
    | false=>
      rw[hb] at h
      simp only[cond_false,Option.bind_eq_some_iff] at h
      obtain ⟨d,hd,h⟩:=h
      obtain ⟨v',hc,hr,_⟩:=cell_of hR h hk
      refine ⟨v',hr, ?_⟩
      simp only[kz,hget,asAddr,Sem.run_bind,Sem.run_pure,Result.andThen_ok,loadVar,ML hd,hb,Bool.false_eq_true,if_false,run_load,hc]
   ·cases h
theorem Zi {μ:Mu} {σ:Aa} {w:World} {regs:B4} {tmps:Array Value} (hR:R P μ σ w) (hreg:NT μ regs tmps):∀ {rs:List ResultVar} {vs:List Value},Y3 P regs σ rs=some vs →
  ∃ vs',J7 μ vs vs'∧(rs.mapM (kz tmps)).run P w = .ok vs' w
 | [],vs,h=>by simp[Y3] at h; subst h; exact ⟨[],.nil,by simp⟩
 | r::rs,vs,h=>by
   simp only[Y3,Option.bind_eq_some_iff] at h
   obtain ⟨v,hv,us,hus,h⟩:=h
   cases h
   obtain ⟨v',h1,h2⟩:=iE hR hreg hv
   obtain ⟨us',g1,g2⟩:=Zi hR hreg hus
   refine ⟨v'::us',.cons h1 g1, ?_⟩
   simp only[List.mapM_cons,Sem.run_bind,h2,Result.andThen_ok,g2,Sem.run_pure]
theorem nW {μ:Mu} {σ σ':Aa} {w:World} {regs:B4} {tmps:Array Value} {F:Func} {x:Bm} {v:Value} (hR:R P μ σ w) (hreg:NT μ regs tmps) (h:fin P F x regs σ=some (v,σ')):
  σ'=σ∧(x = .normal∨x = .ret) ∧ ∃ v',RV μ v v'∧(results F tmps).run P w = .ok v' w:=by
 have main:(Y3 P regs σ F.results.toList).bind (fun vs=>some (Q9 vs,σ))=some (v,σ')→σ'=σ ∧ ∃ v',RV μ v v'∧(results F tmps).run P w = .ok v' w:=by
  intro h
  simp only[Option.bind_eq_some_iff] at h
  obtain ⟨vs,hvs,h⟩:=h
  cases h
  refine ⟨rfl, ?_⟩
  obtain ⟨vs',h1,h2⟩:=Zi hR hreg hvs
  have hrun:(F.results.mapM (kz tmps)).run P w = .ok vs'.toArray w:=by
   rw[Array.mapM_eq_mapM_toList]
   simp only[Sem.run_map,h2,Result.andThen_ok]
  have hres:results F tmps=(do
    let vs ← F.results.mapM (kz tmps)
    pure (if h:vs.size=1 then vs[0] else .tuple vs)):=rfl
  rw[hres]
  simp only[Sem.run_bind,hrun,Result.andThen_ok,Sem.run_pure]
  cases h1 with
  | nil=>exact ⟨_,.tuple .nil,rfl⟩
  | cons h1 t=>
    cases t with
    | nil=>exact ⟨_,h1,rfl⟩
    | cons h3 t=>exact ⟨_,.tuple (.cons h1 (.cons h3 t)),rfl⟩
 unfold fin at h
 cases x with
 | exit id=>cases h
 | normal=>obtain ⟨h1,h2⟩:=main h; exact ⟨h1,.inl rfl,h2⟩
 | ret=>obtain ⟨h1,h2⟩:=main h; exact ⟨h1,.inr rfl,h2⟩
theorem lg {σ σ':Aa} {regs:B4} {F:Func} {x:Bm} {v:Value} (h:fin P F x regs σ=some (v,σ')):σ'=σ:=by
 unfold fin at h
 cases x <;> simp only at h
 ·simp only[Option.bind_eq_some_iff] at h; obtain ⟨_,_,h⟩:=h; cases h; rfl
 ·cases h
 ·simp only[Option.bind_eq_some_iff] at h; obtain ⟨_,_,h⟩:=h; cases h; rfl
def kK (P:Program) (X:Ext):Prop:=∀ f g,X f=some g→SK P (fun f' args σ=>if f'=f then g args σ else none)
theorem mW {μ:Mu} {args:List Value} {cargs:Array Value} (h:J7 μ args cargs.toList) (n:Nat):NT μ (args.map some++List.replicate (n-args.length) (some undef)) (cargs++Array.replicate (n-cargs.size) undef):=by
 have hl:=h.length
 simp only[Array.length_toList] at hl
 refine ⟨by simp; omega,fun t v hv=>?_⟩
 rw[List.getD_eq_getElem?_getD] at hv
 by_cases ht:t<args.length
 ·rw[List.getElem?_append_left (by simpa using ht),List.getElem?_map,List.getElem?_eq_getElem ht] at hv
  simp at hv
  subst hv
  obtain ⟨v',h1,h2⟩:=h.get t _ (List.getElem?_eq_getElem ht)
  refine ⟨v', ?_,h2⟩
  rw[Array.getElem?_append_left (by omega)]
  simpa using h1
 ·rw[List.getElem?_append_right (by simp; omega)] at hv
  simp only[List.length_map,List.getElem?_replicate] at hv
  split at hv
  ·simp at hv; subst hv
   refine ⟨undef, ?_,SA⟩
   rw[Array.getElem?_append_right (by omega)]
   simp only[Array.getElem?_replicate]
   rw[if_pos (by omega)]
  ·cases hv
theorem nY (hmix:P.follows .mixedOrders=true) {X:Ext} (hX:kK P X) (hXa:WV X) {H:FuncId→Hints}:∀ k,SK P (fn P X H k)
 | 0=>by intro f args σ v σ' h; cases h
 | k+1=>by
   have ih:=nY hmix hX hXa (H:=H) k
   intro f args σ v σ' h
   have hcalm:gH P f=true→σ <+: σ':=fun hf=>lh hXa 6 (k+1) f args σ v σ' hf h
   simp only[fn] at h
   split at h
   ·rename_i g hg
    have:=hX f g hg f args σ v σ' (by simp only[if_true]; exact h)
    exact this
   ·rename_i hXn
    split at h
    ·cases h
    ·rename_i F hF
     split at h
     ·cases h
     ·rename_i c hb
      split at h
      ·cases h
      ·rename_i hname
       obtain ⟨⟨x,regs',σ1,hK,hl⟩,hwp⟩:=pW hmix ih c h
       have hs:=lg hK
       subst hs
       refine ⟨hl,hcalm,⟨F,hF,by rw[hb]; rfl,by simpa using hname⟩,fun μ w cargs hR hfr hargs=>?_⟩
       refine calls_of_wp hF hb ?_
       have hinit:=mW hargs F.ntmps
       refine wp_mono (hwp σ'.length (fun x regs σ2 hq=>by rw[lg hq]; exact Nat.le_refl _) { tmps:=cargs++Array.replicate (F.ntmps-cargs.size) undef,defers:=[] } μ w hR hfr hinit rfl) ?_
       rintro e a' w' ⟨x',regs2,σ2,μ',hx,hq,g1,g2,g3,g4,g5,g6⟩
       obtain ⟨h1,h2,v',h3,h4⟩:=nW g1 g3 hq
       subst h1
       have post:a'.defers=[] ∧ ∃ v,(results F a'.tmps).run P w' = .ok v w'∧sk P μ σ w _ σ' (.returned v) w':=⟨g4,v',h4,μ',v',rfl,h3,g1,g2⟩
       rcases h2 with rfl | rfl
       ·cases hx; exact post
       ·cases hx; exact post
end Go.AX
end
section
namespace Go.AX
open Go
variable {ρ:Type}
abbrev Ac (n:Int):Int:=IntKind.i64.wrap n
abbrev u64 (n:Int):Int:=IntKind.u64.wrap n
def Ap (σ:Aa) (o:Bi) (K:Nat→Aa→Option ρ):Option ρ:=K σ.length (σ++[o])
def fg (args:List Value) (σ:Aa):Option (Value × Aa):=
 match args with
 | [.map none]=>some (.map none,σ)
 | [.map (some r)]=>(TJ σ r).bind fun es=>some (.map (some σ.length),σ++[.map es])
 | _=>none
def Vl (x:Option (Value × Aa)):Bool:=match x with
 | some (.bool b,_)=>b
 | _=>false
theorem fq {x:Option (Value × Aa)} (h:Vl x=true):∃ σ,x=some (.bool true,σ):=by
 unfold Vl at h
 split at h
 ·subst h; exact ⟨_,rfl⟩
 ·cases h
def eH (args:List Value) (σ:Aa):Option (Value × Aa):=
 match args with
 | []=>some (.bool true,σ)
 | _=>none
theorem jV {P:Program} {a:FuncId} {call:Ho} (hc:SK P call) (h:Vl (call a [] [])=true):SK P (fun f args σ=>if f=a then eH args σ else none):=by
 intro f args σ v σ' hh
 simp only at hh
 split at hh
 rotate_left
 ·cases hh
 rename_i hf
 subst hf
 unfold eH at hh
 split at hh
 rotate_left
 ·cases hh
 cases hh
 obtain ⟨σ0,hrun⟩:=fq h
 obtain ⟨_,_,hF,hcall⟩:=hc _ _ _ _ _ hrun
 refine ⟨Nat.le_refl _,fun _=>List.prefix_rfl,hF,fun μ w cargs hR hfr ha=>?_⟩
 have h0:R P (fun _=>none) [] w:=⟨fun h o k h1 _=>by simp at h1,fun h k h1=>(by cases h1),fun h h' k k' h1=>(by cases h1)⟩
 refine (hcall (fun _=>none) w cargs h0 (fun _ _ _=>rfl) (by obtain ⟨c⟩:=cargs; cases ha; exact .nil)).mono ?_
 rintro e w' ⟨μ',v',rfl,hv,hR',hS⟩
 cases hv
 have hfr:∀ b,b<w.heap.size→w'.heap[b]?=w.heap[b]?:=fun b hb=>hS.frame b hb fun h k _ h1=>(by cases h1)
 refine ⟨μ,_,rfl,.bool _,⟨?_, ?_,hR.inj⟩,⟨Nat.le_refl _,fun _ _=>rfl,fun _ _ h=>h,fun h k h1 h2=>absurd h2 (by omega),hS.size,hS.tape,hS.os,hS.output,fun b hb _=>hfr b hb⟩⟩
 ·intro h o k h1 h2
  rw[hfr _ (hR.lt _ _ h2)]
  exact hR.obj h o k h1 h2
 ·intro h k h2
  exact Nat.lt_of_lt_of_le (hR.lt _ _ h2) hS.size
def Ev {β:Type} (g:Nat→Nat→Option β) (Q:β→Prop):Prop:=∃ k0 n0 r,Q r ∧ ∀ k n,k0≤k→n0≤n→g k n=some r
theorem Ev.mono {β:Type} {g:Nat→Nat→Option β} {Q Q':β→Prop} (h:Ev g Q) (hq:∀ r,Q r→Q' r):Ev g Q':=
 let ⟨k0,n0,r,h1,h2⟩:=h; ⟨k0,n0,r,hq r h1,h2⟩
theorem Ev.pure {β:Type} {r:β} {Q:β→Prop} (h:Q r):Ev (fun _ _=>some r) Q:=⟨0,0,r,h,fun _ _ _ _=>rfl⟩
theorem Ev.bind {β γ:Type} {g:Nat→Nat→Option β} {f:Nat→Nat→β→Option γ} {Q:γ→Prop} {Q1:β→Prop} (h:Ev g Q1) (hf:∀ r,Q1 r→Ev (fun k n=>f k n r) Q):Ev (fun k n=>(g k n).bind (f k n)) Q:=by
 obtain ⟨k0,n0,r,h1,h2⟩:=h
 obtain ⟨k1,n1,r',g1,g2⟩:=hf r h1
 exact ⟨max k0 k1,max n0 n1,r',g1,fun k n hk hn=>by
  show (g k n).bind (f k n)=some r'
  rw[h2 k n (by omega) (by omega)]; exact g2 k n (by omega) (by omega)⟩
theorem Ev.call {β:Type} {g:Nat→Option β} {f:Nat→Nat→Option β} {Q:β→Prop} (he:∀ k,g (k+1)=f k k) (h:Ev f Q):Ev (fun k _=>g k) Q:=by
 obtain ⟨k0,n0,r,h1,h2⟩:=h
 refine ⟨max k0 n0+1,0,r,h1,fun k n hk _=>?_⟩
 obtain ⟨k',rfl⟩:∃ m,k=m+1:=⟨k-1,by omega⟩
 show g (k'+1)=some r
 rw[he]; exact h2 k' k' (by omega) (by omega)
def cL:Code→Code | .seq a _=>a | c=>c
def cR:Code→Code | .seq _ b=>b | c=>c
def cB:Code→Code | .block _ b=>b | .loop b=>b | .scope b=>b | c=>c
def cT:Code→Code | .cond _ a _=>a | c=>c
def C9 (f:Func):Code:=f.body.getD .skip
end Go.AX
end
section
namespace Go.AX
open Go
variable {ρ:Type}
theorem ln (σ:Aa) (vs:List Value) (T:TypeId) (rw:Bool) (o:Nat):Gy (σ++[.cells vs T rw]) σ.length o=vs[o]?:=by simp[Gy]
theorem qe {σ:Aa} {b:Nat} (τ:Aa) (o:Nat) (h:b<σ.length):Gy (σ++τ) b o=Gy σ b o:=by simp[Gy,List.getElem?_append_left h]
theorem LR (k:IntKind) (σ:Aa) (vs:List Value) (T:TypeId) (rw:Bool) (o:Nat):Ai k (σ++[.cells vs T rw]) σ.length o=(vs[o]?).bind (BA k):=by simp[Ai,ln]
theorem ft (k:IntKind) {σ:Aa} {b:Nat} (τ:Aa) (o:Nat) (h:b<σ.length):Ai k (σ++τ) b o=Ai k σ b o:=by simp[Ai,qe τ o h]
theorem WB (k:IntKind) (σ τ:Aa) (vs:List Value) (T:TypeId) (rw:Bool) (o:Nat):Ai k ((σ++[.cells vs T rw])++τ) σ.length o=(vs[o]?).bind (BA k):=by
 rw[ft k τ o (by simp),LR]
theorem Am (k:IntKind) (n:Int):BA k (.int k n)=some n:=by simp[BA]
theorem As (b:Bool):DF (.bool b)=some b:=rfl
theorem im {α β:Type} (c:Bool) (x y:α) (s:β):(bif c then some (x,s) else some (y,s))=some (bif c then x else y,s):=by cases c <;> rfl
def Zv (m:Option (Value × Aa)) (σ:Aa) (v:Value):Prop:=∃ τ,m=some (v,σ++τ)
noncomputable def Zv.mem {m:Option (Value × Aa)} {σ:Aa} {v:Value} (h:Zv m σ v):Aa:=Classical.choose h
theorem Zv.eq {m:Option (Value × Aa)} {σ:Aa} {v:Value} (h:Zv m σ v):m=some (v,σ++h.mem):=Classical.choose_spec h
def AW (n:Int):Prop:=-9223372036854775808≤n∧n<9223372036854775808
theorem Ad {n:Int} (h:AW n):Ac n=n:=IntWalk.i64_in n (by unfold AW at h; omega)
end Go.AX
end
section
namespace Go.AX
open Go
variable {α:Type}
def fN (n:Nat) (K:Nat→α):α:=Nat.casesOn n (K 0) fun m=>K (Nat.succ m)
theorem AP (n:Nat) (K:Nat→α):fN n K=K n:=by cases n <;> rfl
def fI (n:Int) (K:Int→α):α:=Int.casesOn n (fun m=>fN m fun m=>K (.ofNat m)) (fun m=>fN m fun m=>K (.negSucc m))
theorem AY (n:Int) (K:Int→α):fI n K=K n:=by
 cases n with
 | ofNat m=>exact AP m fun m=>K (.ofNat m)
 | negSucc m=>exact AP m fun m=>K (.negSucc m)
def fB (b:Bool) (K:Bool→α):α:=Bool.casesOn b (K false) (K true)
theorem Bb (b:Bool) (K:Bool→α):fB b K=K b:=by cases b <;> rfl
def fA (a:Addr) (K:Addr→α):α:=match a with
 | ⟨b,o,none⟩=>fN b fun b=>fN o fun o=>K ⟨b,o,none⟩
 | ⟨b,o,some z⟩=>fN b fun b=>fN o fun o=>fN z fun z=>K ⟨b,o,some z⟩
theorem Ba (a:Addr) (K:Addr→α):fA a K=K a:=by
 obtain ⟨b,o,s⟩:=a
 cases s <;> simp[fA,AP]
def fP (a:Option Addr) (K:Option Addr→α):α:=match a with
 | none=>K none
 | some a=>fA a fun a=>K (some a)
theorem AZ (a:Option Addr) (K:Option Addr→α):fP a K=K a:=by cases a <;> simp[fP,Ba]
def fO (m:Option Nat) (K:Option Nat→α):α:=match m with
 | none=>K none
 | some a=>fN a fun a=>K (some a)
theorem Bc (a:Option Nat) (K:Option Nat→α):fO a K=K a:=by cases a <;> simp[fO,AP]
def fS (x:Option Addr × Nat × Nat) (K:Option Addr × Nat × Nat→α):α:=match x with
 | (a,l,c)=>fP a fun a=>fN l fun l=>fN c fun c=>K (a,l,c)
theorem Bd (x:Option Addr × Nat × Nat) (K:Option Addr × Nat × Nat→α):fS x K=K x:=by
 obtain ⟨a,l,c⟩:=x
 simp[fS,AZ,AP]
def fV (v:Value) (K:Value→α):α:=match v with
 | .int k n=>fI n fun n=>K (.int k n)
 | .bool b=>fB b fun b=>K (.bool b)
 | .pointer a=>fP a fun a=>K (.pointer a)
 | .slice a l c=>fP a fun a=>fN l fun l=>fN c fun c=>K (.slice a l c)
 | .map m=>fO m fun m=>K (.map m)
 | v=>K v
theorem AV (v:Value) (K:Value→α):fV v K=K v:=by
 unfold fV
 split <;> simp[AY,Bb,AZ,AP,Bc]
def sC:List Value→(List Value→α)→α
 | [],K=>K []
 | v::vs,K=>fV v fun v=>sC vs fun vs=>K (v::vs)
theorem jJ:∀ (vs:List Value) (K:List Value→α),sC vs K=K vs
 | [],K=>rfl
 | v::vs,K=>by simp[sC,AV,jJ vs]
def sx:List (Int × Value)→(List (Int × Value)→α)→α
 | [],K=>K []
 | e::es,K=>fI e.1 fun i=>fV e.2 fun v=>sx es fun es=>K ((i,v)::es)
theorem jI:∀ (vs:List (Int × Value)) (K:List (Int × Value)→α),sx vs K=K vs
 | [],K=>rfl
 | v::vs,K=>by simp[sx,AV,AY,jI vs]
def nV (o:Bi) (K:Bi→α):α:=match o with
 | .cells vs T rw=>sC vs fun vs=>K (.cells vs T rw)
 | .map es=>sx es fun es=>K (.map es)
 | .dead=>K .dead
theorem fk (o:Bi) (K:Bi→α):nV o K=K o:=by cases o <;> simp[nV,jJ,jI]
def pM:Aa→Bi→(Aa→α)→α
 | [],o,K=>K [o]
 | x::xs,o,K=>pM xs o fun l=>K (x::l)
theorem kR:∀ (σ:Aa) (o:Bi) (K:Aa→α),pM σ o K=K (σ++[o])
 | [],_,_=>rfl
 | x::xs,o,K=>by simp[pM,kR xs]
def nh:Aa→Nat→Bi→(Aa→α)→α
 | [],_,_,K=>K []
 | _::xs,0,o,K=>K (o::xs)
 | x::xs,i+1,o,K=>nh xs i o fun l=>K (x::l)
theorem ZL:∀ (σ:Aa) (i:Nat) (o:Bi) (K:Aa→α),nh σ i o K=K (σ.set i o)
 | [],_,_,_=>rfl
 | _::_,0,_,_=>rfl
 | x::xs,i+1,o,K=>by simp[nh,ZL xs]
def nU:Aa→(Aa→α)→α
 | [],K=>K []
 | x::xs,K=>(match xs with | []=>nV x fun x=>K [x] | _::_=>nU xs fun l=>K (x::l))
theorem Ao:∀ (σ:Aa) (K:Aa→α),nU σ K=K σ
 | [],_=>rfl
 | [x],K=>by simp[nU,fk]
 | x::y::xs,K=>by rw[nU,Ao (y::xs)]
def fL (σ:Aa) (K:Aa→α):α:=match σ with
 | []=>K []
 | x::xs=>K (x::xs)
theorem Be (σ:Aa) (K:Aa→α):fL σ K=K σ:=by cases σ <;> rfl
variable {ρ:Type}
def CC (σ:Aa) (o:Bi) (K:Nat→Aa→Option ρ):Option ρ:=nV o fun o=>fN σ.length fun h=>pM σ o fun σ'=>K h σ'
theorem Ag (σ:Aa) (o:Bi) (K:Nat→Aa→Option ρ):CC σ o K=Ap σ o K:=by simp[CC,Ap,fk,AP,kR]
def qY:List Value→Nat→List Value→(List Value→α)→α
 | cs,0,[],K=>K cs
 | _::cs,0,v::vs,K=>qY cs 0 vs fun l=>K (v::l)
 | [],0,v::vs,K=>K (v::vs)
 | x::cs,o+1,vs,K=>qY cs o vs fun l=>K (x::l)
 | [],_+1,vs,K=>K vs
theorem gb:∀ (cs:List Value) (o:Nat) (vs:List Value) (K:List Value→α),o+vs.length≤cs.length→qY cs o vs K=K (AE cs o vs)
 | cs,0,[],K,h=>by simp[qY,AE]
 | _::cs,0,v::vs,K,h=>by
   rw[qY,gb cs 0 vs _ (by simpa using h)]
   simp[AE,Nat.add_comm]
 | [],0,v::vs,K,h=>by simp at h
 | x::cs,o+1,vs,K,h=>by
   rw[qY,gb cs o vs _ (by simp at h; omega)]
   simp[AE,Nat.add_right_comm]
 | [],_+1,vs,K,h=>by simp at h
def T8 (σ:Aa) (b o:Nat) (vs:List Value) (K:Aa→Option ρ):Option ρ:=
 match σ[b]? with
 | some (.cells cs T true)=>if o+vs.length≤cs.length then sC vs fun vs=>qY cs o vs fun cs=>nh σ b (.cells cs T true) K else none
 | _=>none
theorem Ar (σ:Aa) (b o:Nat) (vs:List Value) (K:Aa→Option ρ):T8 σ b o vs K=(Ki σ b o vs).bind K:=by
 unfold T8 Ki
 rcases σ[b]? with _ | o'
 ·rfl
 ·cases o' with
  | dead=>rfl
  | map es=>rfl
  | cells cs T rw=>
    cases rw with
    | false=>rfl
    | true=>
      by_cases h:o+vs.length≤cs.length
      ·simp only[if_pos h,Option.bind_some,jJ,ZL,gb _ _ _ _ h]
      ·simp only[if_neg h,Option.bind_none]
def VG (σ:Aa) (b o:Nat) (v:Value) (K:Aa→Option ρ):Option ρ:=
 match σ[b]? with
 | some (.cells cs T true)=>if o<cs.length then fV v fun v=>qY cs o [v] fun cs=>nh σ b (.cells cs T true) K else none
 | _=>none
theorem XD:∀ (cs:List Value) (o:Nat) (v:Value),o<cs.length→AE cs o [v]=cs.set o v
 | [],_,_,h=>by simp at h
 | x::cs,0,v,h=>by simp[AE]
 | x::cs,o+1,v,h=>by
   have:=XD cs o v (by simpa using h)
   simp only[AE,List.length_cons,List.length_nil] at this ⊢
   simp[← this]
theorem Aq (σ:Aa) (b o:Nat) (v:Value) (K:Aa→Option ρ):VG σ b o v K=(G0 σ b o v).bind K:=by
 unfold VG G0
 rcases σ[b]? with _ | o'
 ·rfl
 ·cases o' with
  | dead=>rfl
  | map es=>rfl
  | cells cs T rw=>
    cases rw with
    | false=>rfl
    | true=>
      by_cases h:o<cs.length
      ·have h':o+[v].length≤cs.length:=by simp; omega
       simp only[if_pos h,Option.bind_some,AV,ZL,gb _ _ _ _ h',XD _ _ _ h]
      ·simp only[if_neg h,Option.bind_none]
def fR (r:E8 × Aa) (K:E8 × Aa→Option ρ):Option ρ:=match r with
 | (s,σ)=>fS s fun s=>nU σ fun σ=>K (s,σ)
theorem Bf (r:E8 × Aa) (K:E8 × Aa→Option ρ):fR r K=K r:=by
 obtain ⟨s,σ⟩:=r
 simp[fR,Bd,Ao]
def pe (σ:Aa) (r:Nat) (es:List (Int × Value)) (K:Aa→Option ρ):Option ρ:=sx es fun es=>nh σ r (.map es) K
theorem Ak (σ:Aa) (r:Nat) (es:List (Int × Value)) (K:Aa→Option ρ):pe σ r es K=K (List.set σ r (.map es)):=by simp[pe,jI,ZL]
def sy:Aa→(Aa→α)→α
 | [],K=>K []
 | x::xs,K=>nV x fun x=>sy xs fun l=>K (x::l)
theorem A7:∀ (σ:Aa) (K:Aa→α),sy σ K=K σ
 | [],_=>rfl
 | x::xs,K=>by simp[sy,fk,A7 xs]
end Go.AX
end
