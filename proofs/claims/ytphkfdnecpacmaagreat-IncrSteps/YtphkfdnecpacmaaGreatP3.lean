/- All operations that may write, but calls.; Functions without stores only add to memory. -/
import Derived.Test.YtphkfdnecpacmaaGreatP2
set_option linter.unusedVariables false
set_option linter.unusedSimpArgs false
set_option linter.unusedSectionVars false
section
namespace Go.AX
open Go
variable {ρ:Type} {P:Program} [AA]
theorem cq {σ:Aa} {s:Nat} {x:Option Addr} {new:List Value} (h:Dq σ s x 0=some new):new=[]:=by
 unfold Dq at h
 split at h
 ·have:=(Q6 h).1; simpa using this
 ·simpa [eq_comm] using h
theorem xE {c:Call} {call:GL} {q:Bool} {ty:TypeId} {e:Operand→Option Value} {σ:Aa} {K:Value→Aa→Option ρ} {r:ρ} {o:Oper} (ho:o.op = .call c) (hb:c.callee = .builtin .append)
  (h:La P call q (.call c) ty e σ K=some r):∃ v σ',K v σ'=some r∧σ.length≤σ'.length∧zu P o e σ v σ'∧(q=true→σ <+: σ'):=by
 simp only[La,hb] at h
 obtain ⟨vs,h1,hvs⟩:=Q4 h
 clear h
 simp only[Vb] at h1
 unfold yC at h1
 split at h1
 rotate_left
 ·cases h1
 rename_i t t' a l c2 a' l' c' hts
 split at h1
 rotate_left
 ·cases h1
 rename_i E' ht'
 simp only[Option.bind_eq_some_iff] at h1
 obtain ⟨E,hE,rr,happ,hK⟩:=h1
 obtain ⟨hlen,hmain⟩:=wS (ty:=o.type) (KZ hE) ht' happ
 have hK':K (.slice rr.1.1 rr.1.2.1 rr.1.2.2) rr.2=some r∧(q=true→σ <+: rr.2):=by
  cases q with
  | true=>
    simp only[SX,cond_true] at hK
    unfold Q8 at hK
    cases hq:AA.q σ rr.2 with
    | true=>rw[hq] at hK; exact ⟨hK,fun _=>AA.ok hq⟩
    | false=>rw[hq] at hK; cases hK
  | false=>
    simp only[SX,cond_false] at hK
    exact ⟨hK,fun h=>by cases h⟩
 refine ⟨_,_,hK'.1,hlen,fun μ w f hR hfr hf=>?_,hK'.2⟩
 obtain ⟨cs,hex⟩:=D8 (f:=f) ho hb
 have hr:=hvs μ f hf
 generalize c.args.toList.map f=lst at hr hex
 cases hr with
 | cons hr1 hr2=>
   cases hr2 with
   | cons hr2 hr3=>
     cases hr3
     obtain ⟨μ',v',w',hrun,g1,g2,g3⟩:=hmain μ w _ _ hR hfr hr1 hr2
     refine ⟨μ',v',w',.inl ?_,g1,g2,g3⟩
     rw[hex,toList_eq hts]
     simp only[builtin,Sem.run_bind,hrun,Result.andThen_ok,Sem.run_pure]
theorem Aie {o:Oper} {c:Call} {b:Builtin} (ho:o.op = .call c) (hb:c.callee = .builtin b) (h:isApp o=true):b = .append:=by
 unfold isApp at h
 rw[ho] at h
 simp only[hb] at h
 cases b <;> first | rfl | cases h
theorem oT {c:Call} {b:Builtin} {call:GL} {q:Bool} {ty:TypeId} {e:Operand→Option Value} {σ:Aa} {K:Value→Aa→Option ρ} {r:ρ} {o:Oper} (ho:o.op = .call c) (hb:c.callee = .builtin b)
  (hna:b ≠ .append) (hc:qi b (cl P c.argTypes.toList) = .lo) (h:La P call q (.call c) ty e σ K=some r):∃ v σ',K v σ'=some r∧σ.length≤σ'.length∧zu P o e σ v σ':=by
 simp only[La,hb] at h
 obtain ⟨vs,h1,hvs⟩:=Q4 h
 clear h
 cases b <;> simp only[qi] at hc <;> first
  | (cases hc; done)
  | (simp only[Vb] at h1; first | (cases h1; done) | skip)
 case len=>cases hm:cl P c.argTypes.toList <;> rw[hm] at hc <;> cases hc
 case append=>exact absurd rfl hna
 case copy=>
  unfold Ahf at h1
  split at h1
  rotate_left
  ·cases h1
  rename_i t t' a l c2 a' l' c' hts
  simp only[Option.bind_eq_some_iff] at h1
  obtain ⟨E,hE,s,hs,new,hnew,σ1,hst0,h1⟩:=h1
  have hT:=KZ hE
  have run:∀ (μ:Mu) (w w':World) (f:Operand→Value) (base:Option Addr) (cc:Nat) (x:Value) (new':List Value),c.args.toList.map f=[.slice base l cc,x]→(Builtin.lenOf x).run P w = .ok l' w →
    (Builtin.firstCells s (Nat.min l' l) x).run P w = .ok new'.toArray w→(match base with | some a=>storeCells a new' | none=>pure ()).run P w = .ok () w' →
    (execOp f o).run P w = .ok (.value (.int .i64 (Nat.min l' l:Nat))) w':=by
   intro μ w w' f base cc x new' hargs hlen hfirst hst
   obtain ⟨cs,hex⟩:=D8 (f:=f) ho hb
   rw[hex,hargs,toList_eq hts]
   cases base with
   | none=>
     simp only[Sem.run_pure] at hst; cases hst
     simp only[builtin,Sem.run_bind,Builtin.copy_,List.getElem?_toArray,List.getElem?_cons_zero,List.getElem?_cons_succ,run_underlying hT,Result.andThen_ok,hlen,run_sizeOf hs,hfirst,Sem.run_pure,goInt]
   | some a=>
     simp only at hst
     simp only[builtin,Sem.run_bind,Builtin.copy_,List.getElem?_toArray,List.getElem?_cons_zero,List.getElem?_cons_succ,run_underlying hT,Result.andThen_ok,hlen,run_sizeOf hs,hfirst,Sem.run_pure,goInt,hst]
  cases a with
  | none=>
    simp only[stO,Option.some.injEq] at hst0
    subst hst0
    refine ⟨_,σ,h1,Nat.le_refl _,fun μ w f hR hfr hf=>?_⟩
    have hr:=hvs μ f hf
    generalize hargs:c.args.toList.map f=lst at hr
    cases hr with
    | cons hr1 hr2=>
      cases hr2 with
      | cons hr2 hr3=>
        cases hr3
        cases hr1 with
        | sliceNil=>
          have hmin:Nat.min l' 0=0:=Nat.min_zero _
          rw[hmin] at hnew
          have hn:=cq hnew
          subst hn
          obtain ⟨new',g1,g2,g3,g4,g5⟩:=JB hR hr2 (Nat.zero_le _) hnew
          cases g1
          refine ⟨μ,_,w,.inl (run μ w w f none 0 _ [] hargs g3 (by rw[hmin]; exact g2) rfl),.int _ _,hR,Step.refl _ _ _⟩
  | some a0=>
    simp only[stO] at hst0
    obtain ⟨cs,T,hbb,hlen,rfl⟩:=YK hst0
    refine ⟨_,_,h1,by simp,fun μ w f hR hfr hf=>?_⟩
    have hr:=hvs μ f hf
    generalize hargs:c.args.toList.map f=lst at hr
    cases hr with
    | cons hr1 hr2=>
      cases hr2 with
      | cons hr2 hr3=>
        cases hr3
        obtain ⟨new',g1,g2,g3,g4,g5⟩:=JB hR hr2 (Nat.min_le_left _ _) hnew
        cases hr1 with
        | @slice _ k _ _ cc hk hsp hl hcc hm=>
          obtain ⟨w',hrun,hR',hS⟩:=O8 hR hk hbb g1 g4 hlen
          exact ⟨μ,_,w',.inl (run μ w w' f _ cc _ new' hargs g3 g2 hrun),.int _ _,hR',hS⟩
        | @sliceEnd _ k o' cc hk hsp hm=>
          have hmin:Nat.min l' 0=0:=Nat.min_zero _
          have hn:new=[]:=by rw[hmin] at hnew; exact cq hnew
          subst hn
          cases g1
          rw[ZD _ _ (by simpa using hlen),cP hbb]
          exact ⟨μ,_,w,.inl (run μ w w f _ cc _ [] hargs g3 g2 rfl),.int _ _,hR,Step.refl _ _ _⟩
        | sliceZ y hz=>
          have hmin:Nat.min l' 0=0:=Nat.min_zero _
          have hn:new=[]:=by rw[hmin] at hnew; exact cq hnew
          subst hn
          cases g1
          rw[ZD _ _ (by simpa using hlen),cP hbb]
          exact ⟨μ,_,w,.inl (run μ w w f _ 0 _ [] hargs g3 g2 rfl),.int _ _,hR,Step.refl _ _ _⟩
 case clear=>
  unfold Ac3 at h1
  split at h1
  rotate_left
  ·cases h1
  rename_i t v hts
  split at h1
  ·rename_i kt E rr hT
   simp only[Option.bind_eq_some_iff] at h1
   obtain ⟨es,hes,h1⟩:=h1
   rcases rr with _ | r'
   ·refine ⟨_,σ,h1,Nat.le_refl _,fun μ w f hR hfr hf=>?_⟩
    obtain ⟨cs,hex⟩:=D8 (f:=f) ho hb
    have hr:=hvs μ f hf
    generalize c.args.toList.map f=lst at hr hex
    cases hr with
    | cons hr1 hr2=>
      cases hr2
      rw[Y1 hr1] at hex
      refine ⟨μ,_,w,.inl ?_,.tuple .nil,hR,Step.refl _ _ _⟩
      rw[hex,toList_eq hts]
      simp[builtin,Builtin.clear_,run_underlying hT]
   ·simp only[qp] at hes
    refine ⟨_,_,h1,by simp[Abg],fun μ w f hR hfr hf=>?_⟩
    obtain ⟨cs,hex⟩:=D8 (f:=f) ho hb
    have hr:=hvs μ f hf
    generalize c.args.toList.map f=lst at hr hex
    cases hr with
    | cons hr1 hr2=>
      cases hr2
      obtain ⟨kb,hkb,hfm⟩:=kz hr1
      obtain ⟨entries,clock,hh,hre⟩:=kh hR hes hkb
      have hbb:σ[r']?=some (.map es):=by
       unfold Yn at hes
       split at hes
       ·cases hes; assumption
       ·cases hes
      obtain ⟨hR',hS⟩:=Tn (entries2:=#[]) hR hkb hbb clock .nil
      rw[hfm] at hex
      refine ⟨μ,_,_,.inl ?_,.tuple .nil,hR',hS⟩
      rw[hex,toList_eq hts]
      simp[builtin,Builtin.clear_,run_underlying hT,My hh,VL hh]
  ·rename_i E a l c2 hT
   simp only[Option.bind_eq_some_iff] at h1
   obtain ⟨z,hz,h1⟩:=h1
   split at h1
   rotate_left
   ·cases h1
   rename_i hzz
   simp only[Option.bind_eq_some_iff] at h1
   obtain ⟨σ',hst,h1⟩:=h1
   split at hst
   ·rename_i hl0
    subst hl0
    cases hst
    refine ⟨_,σ,h1,Nat.le_refl _,fun μ w f hR hfr hf=>?_⟩
    obtain ⟨cs,hex⟩:=D8 (f:=f) ho hb
    have hr:=hvs μ f hf
    generalize c.args.toList.map f=lst at hr hex
    cases hr with
    | cons hr1 hr2=>
      cases hr2
      refine ⟨μ,_,w,.inl ?_,.tuple .nil,hR,Step.refl _ _ _⟩
      rw[hex,toList_eq hts]
      cases hr1 with
      | sliceNil=>simp[builtin,Builtin.clear_,run_underlying hT]
      | sliceZ=>simp[builtin,Builtin.clear_,run_underlying hT]
      | slice=>simp[builtin,Builtin.clear_,run_underlying hT]
      | sliceEnd=>simp[builtin,Builtin.clear_,run_underlying hT]
   ·rename_i hl0
    simp only[Option.bind_eq_some_iff] at hst
    obtain ⟨a0,ha0,hst⟩:=hst
    subst ha0
    obtain ⟨cs,T,hbb,hlen,rfl⟩:=YK hst
    refine ⟨_,_,h1,by simp,fun μ w f hR hfr hf=>?_⟩
    obtain ⟨cs',hex⟩:=D8 (f:=f) ho hb
    have hr:=hvs μ f hf
    generalize c.args.toList.map f=lst at hr hex
    cases hr with
    | cons hr1 hr2=>
      cases hr2
      obtain ⟨hz1,hz2⟩:=Mz hz w
      obtain ⟨g1,g2,g3⟩:=Lt (RV.JR (μ:=μ) hz2) hzz.1
      have hrep:=ub z.cells l hzz.2
      cases hr1 with
      | @slice _ k _ _ cc hk hsp hl hcc hm=>
        obtain ⟨w',hrun,hR',hS⟩:=O8 hR hk hbb (g1.rep l) (by
         intro v hv; simp only[AX.rep,List.mem_flatten,List.mem_replicate] at hv; obtain ⟨l,⟨_,rfl⟩,hvl⟩:=hv; exact g2 v hvl) hlen
        refine ⟨μ,_,w',.inl ?_,.tuple .nil,hR',hS⟩
        rw[hex,toList_eq hts]
        have hne:l≠0:=hl0
        rw[← hrep] at hrun
        cases l with
        | zero=>exact absurd rfl hl0
        | succ l=>simp[builtin,Builtin.clear_,run_underlying hT,hz1,hrun]
      | sliceEnd=>exact absurd rfl hl0
      | sliceZ=>exact absurd rfl hl0
  ·cases h1
 case delete=>
  unfold yH at h1
  split at h1
  rotate_left
  ·cases h1
  rename_i t t' rr k hts
  have hk64:∀ {kt},Aam P kt=true → ∀ (b:Bool) (w:World),(Instr.checkKey b 10000 kt (.int .i64 k)).run P w = .ok () w:=fun h b w=>Zg (dw h) b 9999 w
  split at h1
  ·rename_i rr _ _ kt E hT
   split at h1
   rotate_left
   ·cases h1
   rename_i hkt
   simp only[Option.bind_eq_some_iff] at h1
   obtain ⟨es,hes,h1⟩:=h1
   rcases rr with _ | r'
   ·refine ⟨_,σ,h1,Nat.le_refl _,fun μ w f hR hfr hf=>?_⟩
    obtain ⟨cs,hex⟩:=D8 (f:=f) ho hb
    have hr:=hvs μ f hf
    generalize c.args.toList.map f=lst at hr hex
    cases hr with
    | cons hr1 hr2=>
      cases hr2 with
      | cons hr2 hr3=>
        cases hr3
        rw[Y1 hr1,gC hr2] at hex
        refine ⟨μ,_,w,.inl ?_,.tuple .nil,hR,Step.refl _ _ _⟩
        rw[hex,toList_eq hts]
        simp[builtin,Builtin.delete_,run_underlying hT,hk64 hkt]
   ·simp only[qp] at hes
    refine ⟨_,_,h1,by simp[Abg],fun μ w f hR hfr hf=>?_⟩
    obtain ⟨cs,hex⟩:=D8 (f:=f) ho hb
    have hr:=hvs μ f hf
    generalize c.args.toList.map f=lst at hr hex
    cases hr with
    | cons hr1 hr2=>
      cases hr2 with
      | cons hr2 hr3=>
        cases hr3
        obtain ⟨kb,hkb,hfm⟩:=kz hr1
        obtain ⟨entries,clock,hh,hre⟩:=kh hR hes hkb
        have hbb:σ[r']?=some (.map es):=by
         unfold Yn at hes
         split at hes
         ·cases hes; assumption
         ·cases hes
        rw[hfm,gC hr2] at hex
        have hki:=dw hkt
        have hfind:=findNow_spec (k:=k) es entries.toList 0 hre
        cases hg:TF es k with
        | none=>
          rw[hg] at hfind
          obtain ⟨h1',h2,h3⟩:=hfind
          obtain ⟨hR',hS⟩:=Tn (es2:=RU k es) (entries2:=entries) hR hkb hbb clock (by rw[h3]; exact hre)
          refine ⟨μ,_,_,.inl ?_,.tuple .nil,hR',hS⟩
          rw[hex,toList_eq hts]
          simp[builtin,Builtin.delete_,run_underlying hT,My hh,hk64 hkt,Instr.findKey,run_underlying hki,h1',VL hh]
        | some u=>
          rw[hg] at hfind
          obtain ⟨j,e',h1',h2,h3,h4,h5,h6,h7⟩:=hfind
          rw[Nat.zero_add] at h1'
          obtain ⟨hR',hS⟩:=Tn (es2:=RU k es) (entries2:=entries.eraseIdxIfInBounds j) hR hkb hbb clock (by rw[h6,Array.toList_eraseIdxIfInBounds]; exact hre.erase j)
          refine ⟨μ,_,_,.inl ?_,.tuple .nil,hR',hS⟩
          rw[hex,toList_eq hts]
          simp[builtin,Builtin.delete_,run_underlying hT,My hh,hk64 hkt,Instr.findKey,run_underlying hki,h1',VL hh]
  ·cases h1
end Go.AX
end
section
namespace Go.AX
open Go
variable {ρ:Type} {P:Program} [AA]
theorem ZI {dj:Option Nat} {known:List (Nat × Bool)}:∀ {l:List (Nat × Oper)} {x:List (Nat × Oper) × (Nat × Oper) × List (Nat × Oper)},YJ dj known l=some x→l=x.1++x.2.1::x.2.2
 | [],x,h=>by simp[YJ] at h
 | io::rest,x,h=>by
   simp only[YJ] at h
   cases hp:Adj dj known io.2 with
   | true=>rw[hp] at h; simp at h; subst h; rfl
   | false=>
     rw[hp] at h
     simp only[cond_false,Option.map_eq_some_iff] at h
     obtain ⟨y,hy,rfl⟩:=h
     rw[ZI hy]; rfl
theorem Aek {α:Type} (want b:Bool) (x y:α):sel want b x y=bif b == want then x else y:=by cases want <;> cases b <;> rfl
theorem tG {σ σ':Aa} {m:Option ρ} {r:ρ} (h:Q8 σ σ' m=some r):σ <+: σ'∧m=some r:=by
 unfold Q8 at h
 cases hq:AA.q σ σ' with
 | true=>rw[hq] at h; exact ⟨AA.ok hq,h⟩
 | false=>rw[hq] at h; cases h
theorem Adz {S:FuncId→Bool} {call:GL} (hcall:∀ f args σ v σ',S f=true→call f args σ=some (v,σ')→σ <+: σ') {q:Bool} {o:Oper} {regs:AZ} {σ:Aa} {K:Value→Aa→Option ρ} {r:ρ}
  (ha:ki P S o=true) (h:La P call q o.op o.type (tm regs) σ K=some r):∃ v σ',K v σ'=some r∧σ <+: σ':=by
 by_cases hnc:∀ c,o.op ≠ .call c
 ·cases hc:GR P o with
  | pure=>obtain ⟨v,h1,_⟩:=Ys hc h; exact ⟨v,σ,h1,List.prefix_rfl⟩
  | ld=>obtain ⟨v,h1,_⟩:=xF hc h; exact ⟨v,σ,h1,List.prefix_rfl⟩
  | al=>obtain ⟨v,x,h1,_⟩:=xD hc hnc h; exact ⟨v,σ++[x],h1,⟨[x],rfl⟩⟩
  | lo=>
    unfold ki at ha
    split at ha
    ·rename_i c ho; exact absurd ho (hnc c)
    ·rw[hc] at ha; cases ha
 ·have:∃ c,o.op = .call c:=by
   apply Classical.byContradiction
   intro hq
   exact hnc fun c hc=>hq ⟨c,hc⟩
  obtain ⟨c,ho⟩:=this
  simp only[ki,ho] at ha
  split at ha
  ·rename_i f hcal
   rw[ho] at h
   simp only[La,hcal,Option.bind_eq_some_iff,tm] at h
   obtain ⟨fv,hfv,h⟩:=h
   cases hfv
   obtain ⟨vs,h1,_⟩:=Q4 h
   clear h
   simp only[Option.bind_eq_some_iff] at h1
   obtain ⟨⟨v,σ'⟩,hcl,h1⟩:=h1
   have hp:σ <+: σ':=hcall f _ σ v σ' ha (tx hcl).2
   cases hb:(q && !yF P (.func (.func f) #[] #[])) with
   | true=>
     rw[hb] at h1
     simp only[SX,cond_true] at h1
     exact ⟨v,σ',YZ (tG h1).2,hp⟩
   | false=>
     rw[hb] at h1
     simp only[SX,cond_false] at h1
     exact ⟨v,σ',YZ h1,hp⟩
  ·rename_i b hcal
   cases hc:GR P o with
   | pure=>obtain ⟨v,h1,_⟩:=Ys hc h; exact ⟨v,σ,h1,List.prefix_rfl⟩
   | ld=>obtain ⟨v,h1,_⟩:=xF hc h; exact ⟨v,σ,h1,List.prefix_rfl⟩
   | al=>
     simp only[GR,ho,hcal] at hc
     cases b <;> cases hm:cl P c.argTypes.toList <;> simp[hm,qi] at hc
   | lo=>rw[hc] at ha; cases ha
  ·cases ha
theorem xu {a:Option Addr} {σ σ':Aa} {m:Option ρ} {r:ρ} (h:NX a σ σ' m=some r):m=some r ∧ ∀ b,a=some b→σ'[b.block]?=σ[b.block]?:=by
 cases a with
 | none=>exact ⟨h,fun b e=>by cases e⟩
 | some b=>
   unfold NX at h
   simp only at h
   cases hk:AA.k σ σ' b.block with
   | true=>rw[hk] at h; exact ⟨h,fun b' e=>by cases e; exact AA.kok hk⟩
   | false=>rw[hk] at h; cases h
def Kept (ts:List Nat) (E:AZ) (σ σ':Aa):Prop:=∀ t ∈ ts,∃ a,E.getD t none=some (.pointer a) ∧ ∀ b,a=some b→σ'[b.block]?=σ[b.block]?
theorem cm:∀ {ts:List Nat} {regs:AZ} {σ σ':Aa} {m:Option ρ} {r:ρ},gm ts regs σ σ' m=some r→m=some r∧Kept ts regs σ σ'
 | [],regs,σ,σ',m,r,h=>⟨h,fun t ht=>by cases ht⟩
 | t::ts,regs,σ,σ',m,r,h=>by
   simp only[gm] at h
   split at h
   ·rename_i a ha
    obtain ⟨h1,h2⟩:=xu h
    obtain ⟨h3,h4⟩:=cm h1
    refine ⟨h3,fun t' ht=>?_⟩
    rcases List.mem_cons.1 ht with rfl | ht
    ·exact ⟨a,ha,h2⟩
    ·exact h4 t' ht
   ·cases h
theorem Ta {S:FuncId→Bool} {call:GL} (hcall:∀ f args σ v σ',S f=true→call f args σ=some (v,σ')→σ <+: σ') {qf:Nat→QF} {all:List Oper}:∀ (fuel:Nat) {ρ:Type} {known:List (Nat × Bool)} {ops:List (Nat × Oper)} {regs:AZ} {σ:Aa} {K:AZ→Aa→Option ρ} {r:ρ},
  N7 P call qf all fuel ρ known ops regs σ K=some r→(∀ io ∈ ops,ki P S io.2=true) → ∃ regs' σ',K regs' σ'=some r∧σ <+: σ'
 | 0,ρ,known,ops,regs,σ,K,r,h,ha=>by simp[N7] at h
 | fuel+1,ρ,known,ops,regs,σ,K,r,h,ha=>by
   cases ops with
   | nil=>simp only[N7] at h; exact ⟨regs,σ,h,List.prefix_rfl⟩
   | cons io rest=>
     have one:(La P call (qf io.1).1 io.2.op io.2.type (tm regs) σ fun v σ'=>gm (qf io.1).2 regs σ σ' (N7 P call qf all fuel ρ known rest (MW regs io.2.dst (some v)) σ' K))=some r → ∃ regs' σ',K regs' σ'=some r∧σ <+: σ':=by
      intro h
      obtain ⟨v,σ1,h1,h2⟩:=Adz hcall (ha io (by simp)) h
      obtain ⟨regs',σ',g1,g2⟩:=Ta hcall fuel (cm h1).1 (fun io' h'=>ha io' (by simp[h']))
      exact ⟨regs',σ',g1,h2.trans g2⟩
     simp only[N7] at h
     split at h
     ·exact one h
     ·rename_i j want hg
      cases hk:known.contains (j,want) with
      | true=>
        rw[hk] at h
        simp only[cond_true] at h
        split at h
        ·rename_i b hr
         cases hbw:(b == want) with
         | false=>rw[hbw] at h; cases h
         | true=>rw[hbw] at h; exact one h
        ·cases h
      | false=>
        rw[hk] at h
        simp only[cond_false] at h
        split at h
        ·cases h
        ·rename_i body p after hsp
         have hrest:=ZI hsp
         simp only at hrest
         split at h
         ·rename_i b hr
          simp only[Option.bind_eq_some_iff] at h
          obtain ⟨⟨rb,σ1⟩,h1,h2⟩:=h
          rw[Aek] at h1
          have fin:∀ (regs':AZ) (σ':Aa),(((p.2.dst.bind fun d=>regs'.getD d none).bind Ey).bind fun r=>some (r,σ'))=some (rb,σ1)→σ'=σ1:=by
           intro regs' σ' hq
           rw[Option.bind_eq_some_iff] at hq
           obtain ⟨x,hx,hxx⟩:=hq
           cases hxx
           rfl
          have hmem:∀ io' ∈ io::(body++[p]),ki P S io'.2=true:=by
           intro io' h'
           apply ha
           rw[hrest]
           simp at h' ⊢
           rcases h' with h' | h' | h' <;> simp[h']
          have grp:σ <+: σ1:=by
           cases hbw:(b == want) with
           | true=>
             rw[hbw] at h1
             simp only[cond_true] at h1
             obtain ⟨regs',σ',g1,g2⟩:=Ta hcall fuel h1 hmem
             rw[← fin _ _ g1]; exact g2
           | false=>
             rw[hbw] at h1
             simp only[cond_false,Option.bind_eq_some_iff] at h1
             obtain ⟨regs2,hs,h1⟩:=h1
             obtain ⟨regs',σ',g1,g2⟩:=Ta hcall fuel h1 (fun io' h'=>hmem io' (by simp at h'; simp[h']))
             rw[← fin _ _ g1]; exact g2
          obtain ⟨regs',σ',g1,g2⟩:=Ta hcall fuel h2 (fun io' h'=>ha io' (by rw[hrest]; simp[h']))
          exact ⟨regs',σ',g1,grp.trans g2⟩
         ·cases h
theorem rS {regs:AZ} {r:Ax} {x:Dg} {σ:Aa}:∀ {os:List (Nat × Kd)} {acc:List Value→List Value},oU regs os (fun vs=>some (x,acc vs,σ))=some r→r.2.2=σ
 | [],acc,h=>by simp only[oU] at h; cases h; rfl
 | (t,k)::os,acc,h=>by
   simp only[oU,Option.bind_eq_some_iff] at h
   obtain ⟨v,_,h⟩:=h
   exact rS (acc:=fun vs=>acc (v::vs)) h
theorem iQ {exits:List (Dg × List (Nat × Kd))} {x:Dg} {regs:AZ} {σ:Aa} {r:Ax} (h:pack exits x regs σ=some r):r.2.2=σ:=by
 unfold pack at h
 simp only[Option.bind_eq_some_iff] at h
 obtain ⟨outs,_,h⟩:=h
 exact rS (acc:=id) h
theorem pQ {x:Dg} {K:Dg→List (Nat × Kd)→Option ρ} {r:ρ}:∀ {es:List (Dg × List (Nat × Kd))},gQ x K es=some r → ∃ y outs,K y outs=some r
 | [],h=>by cases h
 | e::es,h=>by
   simp only[gQ] at h
   split at h
   ·exact ⟨_,_,h⟩
   ·exact pQ h
theorem Acv {ks:List Kd}:∀ {l:List Value} {K:List Value→Option ρ} {r:ρ},tc ks l K=some r → ∃ vs,K vs=some r:=by
 induction ks with
 | nil=>intro l K r h; exact ⟨_,h⟩
 | cons k ks ih=>
   intro l K r h
   simp only[tc,Option.bind_eq_some_iff] at h
   obtain ⟨v,_,h⟩:=h
   obtain ⟨vs,h⟩:=ih (bB h)
   exact ⟨_,h⟩
theorem pS {h:Hint} {c:Code} {regs:AZ} {r1:Ax} {K:Dg→AZ→Aa→Option ρ} {r:ρ} (hu:unpack h c regs r1 K=some r):∃ x regs2,K x regs2 r1.2.2=some r:=by
 unfold unpack at hu
 obtain ⟨y,outs,hu⟩:=pQ hu
 obtain ⟨vs,hu⟩:=Acv hu
 exact ⟨_,_,hu⟩
theorem oP {B:AZ→Aa→(Dg→AZ→Aa→Option Ax)→Option Ax} {h:Hint} (hB:∀ regs σ K r,B regs σ K=some r → ∃ x regs' σ',K x regs' σ'=some r∧σ <+: σ'):∀ (n:Nat) {regs:AZ} {σ:Aa} {r:Ax},lu B h n regs σ=some r→σ <+: r.2.2
 | 0,_,_,_,e=>by cases e
 | n+1,regs,σ,r,e=>by
   simp only[lu] at e
   obtain ⟨x,regs',σ',g1,g2⟩:=hB _ _ _ _ e
   cases x with
   | normal=>exact g2.trans (oP hB n g1)
   | exit i=>rw[iQ g1]; exact g2
   | ret=>rw[iQ g1]; exact g2
theorem Aaa {S:FuncId→Bool} {call:GL} (hcall:∀ f args σ v σ',S f=true→call f args σ=some (v,σ')→σ <+: σ') {fid:FuncId} {H:Hints} {n:Nat}:∀ (c:Code) {ρ:Type} {regs:AZ} {σ:Aa} {K:Dg→AZ→Aa→Option ρ} {r:ρ},
  Wv P S c=true→exec P call fid H n c ρ regs σ K=some r → ∃ x regs' σ',K x regs' σ'=some r∧σ <+: σ':=by
 intro c
 induction c with
 | skip=>intro ρ regs σ K r ha h; exact ⟨_,_,_,h,List.prefix_rfl⟩
 | exit i=>intro ρ regs σ K r ha h; exact ⟨_,_,_,h,List.prefix_rfl⟩
 | ret=>intro ρ regs σ K r ha h; exact ⟨_,_,_,h,List.prefix_rfl⟩
 | region id ops draw=>
   intro ρ regs σ K r ha h
   simp only[exec] at h
   simp only[Wv,List.all_eq_true] at ha
   cases hd:(draw && !gf P ops.toList (VG P ops.toList draw)) with
   | true=>rw[hd] at h; cases h
   | false=>
     rw[hd] at h
     simp only[cond_false] at h
     obtain ⟨regs',σ',g1,g2⟩:=Ta hcall _ h (by
      intro io hio
      simp only[List.mem_map] at hio
      obtain ⟨x,hx,rfl⟩:=hio
      exact ha _ (by
       have:=List.mem_zipIdx hx
       obtain ⟨_,h2,h3⟩:=this
       simp only at h3 ⊢
       rw[h3]; exact List.getElem_mem _))
     exact ⟨_,_,_,g1,g2⟩
 | seq a b iha ihb=>
   intro ρ regs σ K r ha h
   simp only[exec] at h
   simp only[Wv,Bool.and_eq_true] at ha
   obtain ⟨x,regs',σ',g1,g2⟩:=iha ha.1 h
   cases x with
   | normal=>
     obtain ⟨y,regs2,σ2,k1,k2⟩:=ihb ha.2 g1
     exact ⟨y,regs2,σ2,k1,g2.trans k2⟩
   | exit i=>exact ⟨_,_,_,g1,g2⟩
   | ret=>exact ⟨_,_,_,g1,g2⟩
 | cond c a b iha ihb=>
   intro ρ regs σ K r ha h
   simp only[exec] at h
   simp only[Wv,Bool.and_eq_true] at ha
   split at h
   ·rename_i bb hb
    split at h
    ·cases bb with
     | true=>exact iha ha.1 h
     | false=>exact ihb ha.2 h
    ·simp only[Option.bind_eq_some_iff] at h
     obtain ⟨r1,h1,h2⟩:=h
     have hp:σ <+: r1.2.2:=by
      cases bb with
      | true=>
        obtain ⟨x,regs',σ',g1,g2⟩:=iha ha.1 h1
        rw[iQ g1]; exact g2
      | false=>
        obtain ⟨x,regs',σ',g1,g2⟩:=ihb ha.2 h1
        rw[iQ g1]; exact g2
     obtain ⟨x,regs2,k⟩:=pS h2
     exact ⟨x,regs2,_,k,hp⟩
   ·cases h
 | block id c ih=>
   intro ρ regs σ K r ha h
   simp only[exec] at h
   simp only[Wv] at ha
   obtain ⟨x,regs',σ',g1,g2⟩:=ih ha h
   cases x with
   | normal=>exact ⟨_,_,_,g1,g2⟩
   | exit i=>
     simp only at g1
     split at g1
     ·exact ⟨_,_,_,g1,g2⟩
     ·exact ⟨_,_,_,g1,g2⟩
   | ret=>exact ⟨_,_,_,g1,g2⟩
 | loop c ih=>
   intro ρ regs σ K r ha h
   simp only[exec] at h
   simp only[Wv] at ha
   split at h
   ·cases h
   ·simp only[Option.bind_eq_some_iff] at h
    obtain ⟨r1,h1,h2⟩:=h
    have hp:=oP (fun regs σ K r e=>ih ha e) n h1
    obtain ⟨x,regs2,k⟩:=pS h2
    exact ⟨x,regs2,_,k,hp⟩
 | _=>intro ρ regs σ K r ha h; simp[Wv] at ha
def gT (X:Ext):Prop:=∀ f g,X f=some g → ∀ args σ v σ',g args σ=some (v,σ')→σ <+: σ'
theorem yJ {X:Ext} (hX:gT X) {H:FuncId→Hints}:∀ (d k:Nat) (f:FuncId) (args:List Value) (σ:Aa) (v:Value) (σ':Aa),yA P d f=true→fn P X H k f args σ=some (v,σ')→σ <+: σ'
 | 0,_,_,_,_,_,_,h,_=>by cases h
 | d+1,0,_,_,_,_,_,_,h=>by cases h
 | d+1,k+1,f,args,σ,v,σ',ha,h=>by
   have ih:=yJ hX (H:=H) d k
   simp only[yA] at ha
   have hny:Nat.beq f YF=false:=by
    cases hb:Nat.beq f YF with
    | true=>rw[hb] at ha; cases ha
    | false=>rfl
   simp only[fn,hny,cond_false] at h ha
   split at h
   ·rename_i g hg
    exact hX f g hg args σ v σ' h
   ·split at h
    ·cases h
    ·rename_i F hF
     simp only[hF] at ha
     split at h
     ·cases h
     ·rename_i c hb
      rw[hb] at ha
      simp only at ha
      split at h
      ·cases h
      ·obtain ⟨x,regs',σ1,hK,hp⟩:=Aaa ih c ha h
       have:σ'=σ1:=by
        unfold fin at hK
        split at hK
        ·cases hK
        ·simp only[Option.bind_eq_some_iff] at hK
         obtain ⟨vs,_,hK⟩:=hK
         cases hK; rfl
       rw[this]; exact hp
end Go.AX
end
