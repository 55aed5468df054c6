/- All operations that may write, but calls.; Functions without stores only add to memory.; Every operation: what it comes to in a walk.; Regions: the tr -/
import Derived.Test.YtlaplcglpnlieaaGreatP2
set_option linter.unusedVariables false
set_option linter.unusedSimpArgs false
set_option linter.unusedSectionVars false
section
namespace Go.AX
open Go
variable {ρ:Type} {P:Program} [AF]
theorem UO {σ:Aa} {s:Nat} {x:Option Addr} {new:List Value} (h:GI σ s x 0=some new):new=[]:=by
 unfold GI at h
 split at h
 ·have:=(N1 h).1; simpa using this
 ·simpa [eq_comm] using h
theorem kk {c:Call} {call:Ho} {q:Bool} {ty:TypeId} {e:Operand→Option Value} {σ:Aa} {K:Value→Aa→Option ρ} {r:ρ} {o:Oper} (ho:o.op = .call c) (hb:c.callee = .builtin .append)
  (h:Lg P call q (.call c) ty e σ K=some r):∃ v σ',K v σ'=some r∧σ.length≤σ'.length∧lN P o e σ v σ'∧(q=true→σ <+: σ'):=by
 simp only[Lg,hb] at h
 obtain ⟨vs,h1,hvs⟩:=Nv h
 clear h
 simp only[Qj] at h1
 unfold kS at h1
 split at h1
 rotate_left
 ·cases h1
 rename_i t t' a l c2 a' l' c' hts
 split at h1
 rotate_left
 ·cases h1
 rename_i E' ht'
 simp only[Option.bind_eq_some_iff] at h1
 obtain ⟨E,hE,rr,happ,hK⟩:=h1
 obtain ⟨hlen,hmain⟩:=j0 (ty:=o.type) (Jp hE) ht' happ
 have hK':K (.slice rr.1.1 rr.1.2.1 rr.1.2.2) rr.2=some r∧(q=true→σ <+: rr.2):=by
  cases q with
  | true=>
    simp only[OY,cond_true] at hK
    unfold Vs at hK
    cases hq:AF.q σ rr.2 with
    | true=>rw[hq] at hK; exact ⟨hK,fun _=>AF.ok hq⟩
    | false=>rw[hq] at hK; cases hK
  | false=>
    simp only[OY,cond_false] at hK
    exact ⟨hK,fun h=>by cases h⟩
 refine ⟨_,_,hK'.1,hlen,fun μ w f hR hfr hf=>?_,hK'.2⟩
 obtain ⟨cs,hex⟩:=D3 (f:=f) ho hb
 have hr:=hvs μ f hf
 generalize c.args.toList.map f=lst at hr hex
 cases hr with
 | cons hr1 hr2=>
   cases hr2 with
   | cons hr2 hr3=>
     cases hr3
     obtain ⟨μ',v',w',hrun,g1,g2,g3⟩:=hmain μ w _ _ hR hfr hr1 hr2
     refine ⟨μ',v',w',.inl ?_,g1,g2,g3⟩
     rw[hex,toList_eq hts]
     simp only[builtin,Sem.run_bind,hrun,Result.andThen_ok,Sem.run_pure]
theorem rk {o:Oper} {c:Call} {b:Builtin} (ho:o.op = .call c) (hb:c.callee = .builtin b) (h:isApp o=true):b = .append:=by
 unfold isApp at h
 rw[ho] at h
 simp only[hb] at h
 cases b <;> first | rfl | cases h
theorem bF {c:Call} {b:Builtin} {call:Ho} {q:Bool} {ty:TypeId} {e:Operand→Option Value} {σ:Aa} {K:Value→Aa→Option ρ} {r:ρ} {o:Oper} (ho:o.op = .call c) (hb:c.callee = .builtin b)
  (hna:b ≠ .append) (hc:cM b (UK P c.argTypes.toList) = .lo) (h:Lg P call q (.call c) ty e σ K=some r):∃ v σ',K v σ'=some r∧σ.length≤σ'.length∧lN P o e σ v σ':=by
 simp only[Lg,hb] at h
 obtain ⟨vs,h1,hvs⟩:=Nv h
 clear h
 cases b <;> simp only[cM] at hc <;> first
  | (cases hc; done)
  | (simp only[Qj] at h1; first | (cases h1; done) | skip)
 case len=>cases hm:UK P c.argTypes.toList <;> rw[hm] at hc <;> cases hc
 case append=>exact absurd rfl hna
 case copy=>
  unfold qQ at h1
  split at h1
  rotate_left
  ·cases h1
  rename_i t t' a l c2 a' l' c' hts
  simp only[Option.bind_eq_some_iff] at h1
  obtain ⟨E,hE,s,hs,new,hnew,σ1,hst0,h1⟩:=h1
  have hT:=Jp hE
  have run:∀ (μ:Mu) (w w':World) (f:Operand→Value) (base:Option Addr) (cc:Nat) (x:Value) (new':List Value),c.args.toList.map f=[.slice base l cc,x]→(Builtin.lenOf x).run P w = .ok l' w →
    (Builtin.firstCells s (Nat.min l' l) x).run P w = .ok new'.toArray w→(match base with | some a=>storeCells a new' | none=>pure ()).run P w = .ok () w' →
    (execOp f o).run P w = .ok (.value (.int .i64 (Nat.min l' l:Nat))) w':=by
   intro μ w w' f base cc x new' hargs hlen hfirst hst
   obtain ⟨cs,hex⟩:=D3 (f:=f) ho hb
   rw[hex,hargs,toList_eq hts]
   cases base with
   | none=>
     simp only[Sem.run_pure] at hst; cases hst
     simp only[builtin,Sem.run_bind,Builtin.copy_,List.getElem?_toArray,List.getElem?_cons_zero,List.getElem?_cons_succ,run_underlying hT,Result.andThen_ok,hlen,run_sizeOf hs,hfirst,Sem.run_pure,goInt]
   | some a=>
     simp only at hst
     simp only[builtin,Sem.run_bind,Builtin.copy_,List.getElem?_toArray,List.getElem?_cons_zero,List.getElem?_cons_succ,run_underlying hT,Result.andThen_ok,hlen,run_sizeOf hs,hfirst,Sem.run_pure,goInt,hst]
  cases a with
  | none=>
    simp only[tt,Option.some.injEq] at hst0
    subst hst0
    refine ⟨_,σ,h1,Nat.le_refl _,fun μ w f hR hfr hf=>?_⟩
    have hr:=hvs μ f hf
    generalize hargs:c.args.toList.map f=lst at hr
    cases hr with
    | cons hr1 hr2=>
      cases hr2 with
      | cons hr2 hr3=>
        cases hr3
        cases hr1 with
        | sliceNil=>
          have hmin:Nat.min l' 0=0:=Nat.min_zero _
          rw[hmin] at hnew
          have hn:=UO hnew
          subst hn
          obtain ⟨new',g1,g2,g3,g4,g5⟩:=Ie hR hr2 (Nat.zero_le _) hnew
          cases g1
          refine ⟨μ,_,w,.inl (run μ w w f none 0 _ [] hargs g3 (by rw[hmin]; exact g2) rfl),.int _ _,hR,Step.refl _ _ _⟩
  | some a0=>
    simp only[tt] at hst0
    obtain ⟨cs,T,hbb,hlen,rfl⟩:=Vd hst0
    refine ⟨_,_,h1,by simp,fun μ w f hR hfr hf=>?_⟩
    have hr:=hvs μ f hf
    generalize hargs:c.args.toList.map f=lst at hr
    cases hr with
    | cons hr1 hr2=>
      cases hr2 with
      | cons hr2 hr3=>
        cases hr3
        obtain ⟨new',g1,g2,g3,g4,g5⟩:=Ie hR hr2 (Nat.min_le_left _ _) hnew
        cases hr1 with
        | @slice _ k _ _ cc hk hsp hl hcc hm=>
          obtain ⟨w',hrun,hR',hS⟩:=LS hR hk hbb g1 g4 hlen
          exact ⟨μ,_,w',.inl (run μ w w' f _ cc _ new' hargs g3 g2 hrun),.int _ _,hR',hS⟩
        | @sliceEnd _ k o' cc hk hsp hm=>
          have hmin:Nat.min l' 0=0:=Nat.min_zero _
          have hn:new=[]:=by rw[hmin] at hnew; exact UO hnew
          subst hn
          cases g1
          rw[T0 _ _ (by simpa using hlen),SD hbb]
          exact ⟨μ,_,w,.inl (run μ w w f _ cc _ [] hargs g3 g2 rfl),.int _ _,hR,Step.refl _ _ _⟩
        | sliceZ y hz=>
          have hmin:Nat.min l' 0=0:=Nat.min_zero _
          have hn:new=[]:=by rw[hmin] at hnew; exact UO hnew
          subst hn
          cases g1
          rw[T0 _ _ (by simpa using hlen),SD hbb]
          exact ⟨μ,_,w,.inl (run μ w w f _ 0 _ [] hargs g3 g2 rfl),.int _ _,hR,Step.refl _ _ _⟩
 case clear=>
  unfold nP at h1
  split at h1
  rotate_left
  ·cases h1
  rename_i t v hts
  split at h1
  ·rename_i kt E rr hT
   simp only[Option.bind_eq_some_iff] at h1
   obtain ⟨es,hes,h1⟩:=h1
   rcases rr with _ | r'
   ·refine ⟨_,σ,h1,Nat.le_refl _,fun μ w f hR hfr hf=>?_⟩
    obtain ⟨cs,hex⟩:=D3 (f:=f) ho hb
    have hr:=hvs μ f hf
    generalize c.args.toList.map f=lst at hr hex
    cases hr with
    | cons hr1 hr2=>
      cases hr2
      rw[S9 hr1] at hex
      refine ⟨μ,_,w,.inl ?_,.tuple .nil,hR,Step.refl _ _ _⟩
      rw[hex,toList_eq hts]
      simp[builtin,Builtin.clear_,run_underlying hT]
   ·simp only[fu] at hes
    refine ⟨_,_,h1,by simp[iX],fun μ w f hR hfr hf=>?_⟩
    obtain ⟨cs,hex⟩:=D3 (f:=f) ho hb
    have hr:=hvs μ f hf
    generalize c.args.toList.map f=lst at hr hex
    cases hr with
    | cons hr1 hr2=>
      cases hr2
      obtain ⟨kb,hkb,hfm⟩:=Y8 hr1
      obtain ⟨entries,clock,hh,hre⟩:=Yw hR hes hkb
      have hbb:σ[r']?=some (.map es):=by
       unfold TJ at hes
       split at hes
       ·cases hes; assumption
       ·cases hes
      obtain ⟨hR',hS⟩:=Pb (entries2:=#[]) hR hkb hbb clock .nil
      rw[hfm] at hex
      refine ⟨μ,_,_,.inl ?_,.tuple .nil,hR',hS⟩
      rw[hex,toList_eq hts]
      simp[builtin,Builtin.clear_,run_underlying hT,KI hh,QA hh]
  ·rename_i E a l c2 hT
   simp only[Option.bind_eq_some_iff] at h1
   obtain ⟨z,hz,h1⟩:=h1
   split at h1
   rotate_left
   ·cases h1
   rename_i hzz
   simp only[Option.bind_eq_some_iff] at h1
   obtain ⟨σ',hst,h1⟩:=h1
   split at hst
   ·rename_i hl0
    subst hl0
    cases hst
    refine ⟨_,σ,h1,Nat.le_refl _,fun μ w f hR hfr hf=>?_⟩
    obtain ⟨cs,hex⟩:=D3 (f:=f) ho hb
    have hr:=hvs μ f hf
    generalize c.args.toList.map f=lst at hr hex
    cases hr with
    | cons hr1 hr2=>
      cases hr2
      refine ⟨μ,_,w,.inl ?_,.tuple .nil,hR,Step.refl _ _ _⟩
      rw[hex,toList_eq hts]
      cases hr1 with
      | sliceNil=>simp[builtin,Builtin.clear_,run_underlying hT]
      | sliceZ=>simp[builtin,Builtin.clear_,run_underlying hT]
      | slice=>simp[builtin,Builtin.clear_,run_underlying hT]
      | sliceEnd=>simp[builtin,Builtin.clear_,run_underlying hT]
   ·rename_i hl0
    simp only[Option.bind_eq_some_iff] at hst
    obtain ⟨a0,ha0,hst⟩:=hst
    subst ha0
    obtain ⟨cs,T,hbb,hlen,rfl⟩:=Vd hst
    refine ⟨_,_,h1,by simp,fun μ w f hR hfr hf=>?_⟩
    obtain ⟨cs',hex⟩:=D3 (f:=f) ho hb
    have hr:=hvs μ f hf
    generalize c.args.toList.map f=lst at hr hex
    cases hr with
    | cons hr1 hr2=>
      cases hr2
      obtain ⟨hz1,hz2⟩:=KJ hz w
      obtain ⟨g1,g2,g3⟩:=J8 (RV.Iu (μ:=μ) hz2) hzz.1
      have hrep:=gk z.cells l hzz.2
      cases hr1 with
      | @slice _ k _ _ cc hk hsp hl hcc hm=>
        obtain ⟨w',hrun,hR',hS⟩:=LS hR hk hbb (g1.rep l) (by
         intro v hv; simp only[AX.rep,List.mem_flatten,List.mem_replicate] at hv; obtain ⟨l,⟨_,rfl⟩,hvl⟩:=hv; exact g2 v hvl) hlen
        refine ⟨μ,_,w',.inl ?_,.tuple .nil,hR',hS⟩
        rw[hex,toList_eq hts]
        have hne:l≠0:=hl0
        rw[← hrep] at hrun
        cases l with
        | zero=>exact absurd rfl hl0
        | succ l=>simp[builtin,Builtin.clear_,run_underlying hT,hz1,hrun]
      | sliceEnd=>exact absurd rfl hl0
      | sliceZ=>exact absurd rfl hl0
  ·cases h1
 case delete=>
  unfold kZ at h1
  split at h1
  rotate_left
  ·cases h1
  rename_i t t' rr k hts
  have hk64:∀ {kt},m7 P kt=true → ∀ (b:Bool) (w:World),(Instr.checkKey b 10000 kt (.int .i64 k)).run P w = .ok () w:=fun h b w=>SX (Vn h) b 9999 w
  split at h1
  ·rename_i rr _ _ kt E hT
   split at h1
   rotate_left
   ·cases h1
   rename_i hkt
   simp only[Option.bind_eq_some_iff] at h1
   obtain ⟨es,hes,h1⟩:=h1
   rcases rr with _ | r'
   ·refine ⟨_,σ,h1,Nat.le_refl _,fun μ w f hR hfr hf=>?_⟩
    obtain ⟨cs,hex⟩:=D3 (f:=f) ho hb
    have hr:=hvs μ f hf
    generalize c.args.toList.map f=lst at hr hex
    cases hr with
    | cons hr1 hr2=>
      cases hr2 with
      | cons hr2 hr3=>
        cases hr3
        rw[S9 hr1,WK hr2] at hex
        refine ⟨μ,_,w,.inl ?_,.tuple .nil,hR,Step.refl _ _ _⟩
        rw[hex,toList_eq hts]
        simp[builtin,Builtin.delete_,run_underlying hT,hk64 hkt]
   ·simp only[fu] at hes
    refine ⟨_,_,h1,by simp[iX],fun μ w f hR hfr hf=>?_⟩
    obtain ⟨cs,hex⟩:=D3 (f:=f) ho hb
    have hr:=hvs μ f hf
    generalize c.args.toList.map f=lst at hr hex
    cases hr with
    | cons hr1 hr2=>
      cases hr2 with
      | cons hr2 hr3=>
        cases hr3
        obtain ⟨kb,hkb,hfm⟩:=Y8 hr1
        obtain ⟨entries,clock,hh,hre⟩:=Yw hR hes hkb
        have hbb:σ[r']?=some (.map es):=by
         unfold TJ at hes
         split at hes
         ·cases hes; assumption
         ·cases hes
        rw[hfm,WK hr2] at hex
        have hki:=Vn hkt
        have hfind:=findNow_spec (k:=k) es entries.toList 0 hre
        cases hg:Pp es k with
        | none=>
          rw[hg] at hfind
          obtain ⟨h1',h2,h3⟩:=hfind
          obtain ⟨hR',hS⟩:=Pb (es2:=Mm k es) (entries2:=entries) hR hkb hbb clock (by rw[h3]; exact hre)
          refine ⟨μ,_,_,.inl ?_,.tuple .nil,hR',hS⟩
          rw[hex,toList_eq hts]
          simp[builtin,Builtin.delete_,run_underlying hT,KI hh,hk64 hkt,Instr.findKey,run_underlying hki,h1',QA hh]
        | some u=>
          rw[hg] at hfind
          obtain ⟨j,e',h1',h2,h3,h4,h5,h6,h7⟩:=hfind
          rw[Nat.zero_add] at h1'
          obtain ⟨hR',hS⟩:=Pb (es2:=Mm k es) (entries2:=entries.eraseIdxIfInBounds j) hR hkb hbb clock (by rw[h6,Array.toList_eraseIdxIfInBounds]; exact hre.erase j)
          refine ⟨μ,_,_,.inl ?_,.tuple .nil,hR',hS⟩
          rw[hex,toList_eq hts]
          simp[builtin,Builtin.delete_,run_underlying hT,KI hh,hk64 hkt,Instr.findKey,run_underlying hki,h1',QA hh]
  ·cases h1
end Go.AX
end
section
namespace Go.AX
open Go
variable {ρ:Type} {P:Program} [AF]
theorem T7 {dj:Option Nat} {known:List (Nat × Bool)}:∀ {l:List (Nat × Oper)} {x:List (Nat × Oper) × (Nat × Oper) × List (Nat × Oper)},SG dj known l=some x→l=x.1++x.2.1::x.2.2
 | [],x,h=>by simp[SG] at h
 | io::rest,x,h=>by
   simp only[SG] at h
   cases hp:oy dj known io.2 with
   | true=>rw[hp] at h; simp at h; subst h; rfl
   | false=>
     rw[hp] at h
     simp only[cond_false,Option.map_eq_some_iff] at h
     obtain ⟨y,hy,rfl⟩:=h
     rw[T7 hy]; rfl
theorem pb {α:Type} (want b:Bool) (x y:α):tG want b x y=bif b == want then x else y:=by cases want <;> cases b <;> rfl
theorem fH {σ σ':Aa} {m:Option ρ} {r:ρ} (h:Vs σ σ' m=some r):σ <+: σ'∧m=some r:=by
 unfold Vs at h
 cases hq:AF.q σ σ' with
 | true=>rw[hq] at h; exact ⟨AF.ok hq,h⟩
 | false=>rw[hq] at h; cases h
theorem oJ {S:FuncId→Bool} {call:Ho} (hcall:∀ f args σ v σ',S f=true→call f args σ=some (v,σ')→σ <+: σ') {q:Bool} {o:Oper} {regs:B4} {σ:Aa} {K:Value→Aa→Option ρ} {r:ρ}
  (ha:Yz P S o=true) (h:Lg P call q o.op o.type (gn regs) σ K=some r):∃ v σ',K v σ'=some r∧σ <+: σ':=by
 by_cases hnc:∀ c,o.op ≠ .call c
 ·cases hc:Io P o with
  | pure=>obtain ⟨v,h1,_⟩:=X3 hc h; exact ⟨v,σ,h1,List.prefix_rfl⟩
  | ld=>obtain ⟨v,h1,_⟩:=kl hc h; exact ⟨v,σ,h1,List.prefix_rfl⟩
  | al=>obtain ⟨v,x,h1,_⟩:=oK hc hnc h; exact ⟨v,σ++[x],h1,⟨[x],rfl⟩⟩
  | lo=>
    unfold Yz at ha
    split at ha
    ·rename_i c ho; exact absurd ho (hnc c)
    ·rw[hc] at ha; cases ha
 ·have:∃ c,o.op = .call c:=by
   apply Classical.byContradiction
   intro hq
   exact hnc fun c hc=>hq ⟨c,hc⟩
  obtain ⟨c,ho⟩:=this
  simp only[Yz,ho] at ha
  split at ha
  ·rename_i f hcal
   rw[ho] at h
   simp only[Lg,hcal,Option.bind_eq_some_iff,gn] at h
   obtain ⟨fv,hfv,h⟩:=h
   cases hfv
   obtain ⟨vs,h1,_⟩:=Nv h
   clear h
   simp only[Option.bind_eq_some_iff] at h1
   obtain ⟨⟨v,σ'⟩,hcl,h1⟩:=h1
   have hp:σ <+: σ':=hcall f _ σ v σ' ha hcl
   cases hb:(q && !kX P (.func (.func f) #[] #[])) with
   | true=>
     rw[hb] at h1
     simp only[OY,cond_true] at h1
     exact ⟨v,σ',SO (fH h1).2,hp⟩
   | false=>
     rw[hb] at h1
     simp only[OY,cond_false] at h1
     exact ⟨v,σ',SO h1,hp⟩
  ·rename_i b hcal
   cases hc:Io P o with
   | pure=>obtain ⟨v,h1,_⟩:=X3 hc h; exact ⟨v,σ,h1,List.prefix_rfl⟩
   | ld=>obtain ⟨v,h1,_⟩:=kl hc h; exact ⟨v,σ,h1,List.prefix_rfl⟩
   | al=>
     simp only[Io,ho,hcal] at hc
     cases b <;> cases hm:UK P c.argTypes.toList <;> simp[hm,cM] at hc
   | lo=>rw[hc] at ha; cases ha
  ·cases ha
theorem jU {a:Option Addr} {σ σ':Aa} {m:Option ρ} {r:ρ} (h:Q0 a σ σ' m=some r):m=some r ∧ ∀ b,a=some b→σ'[b.block]?=σ[b.block]?:=by
 cases a with
 | none=>exact ⟨h,fun b e=>by cases e⟩
 | some b=>
   unfold Q0 at h
   simp only at h
   cases hk:AF.k σ σ' b.block with
   | true=>rw[hk] at h; exact ⟨h,fun b' e=>by cases e; exact AF.kok hk⟩
   | false=>rw[hk] at h; cases h
def Kept (ts:List Nat) (E:B4) (σ σ':Aa):Prop:=∀ t ∈ ts,∃ a,E.getD t none=some (.pointer a) ∧ ∀ b,a=some b→σ'[b.block]?=σ[b.block]?
theorem UL:∀ {ts:List Nat} {regs:B4} {σ σ':Aa} {m:Option ρ} {r:ρ},W8 ts regs σ σ' m=some r→m=some r∧Kept ts regs σ σ'
 | [],regs,σ,σ',m,r,h=>⟨h,fun t ht=>by cases ht⟩
 | t::ts,regs,σ,σ',m,r,h=>by
   simp only[W8] at h
   split at h
   ·rename_i a ha
    obtain ⟨h1,h2⟩:=jU h
    obtain ⟨h3,h4⟩:=UL h1
    refine ⟨h3,fun t' ht=>?_⟩
    rcases List.mem_cons.1 ht with rfl | ht
    ·exact ⟨a,ha,h2⟩
    ·exact h4 t' ht
   ·cases h
theorem Pa {S:FuncId→Bool} {call:Ho} (hcall:∀ f args σ v σ',S f=true→call f args σ=some (v,σ')→σ <+: σ') {qf:Nat→QF} {all:List Oper}:∀ (fuel:Nat) {ρ:Type} {known:List (Nat × Bool)} {ops:List (Nat × Oper)} {regs:B4} {σ:Aa} {K:B4→Aa→Option ρ} {r:ρ},
  Lt P call qf all fuel ρ known ops regs σ K=some r→(∀ io ∈ ops,Yz P S io.2=true) → ∃ regs' σ',K regs' σ'=some r∧σ <+: σ'
 | 0,ρ,known,ops,regs,σ,K,r,h,ha=>by simp[Lt] at h
 | fuel+1,ρ,known,ops,regs,σ,K,r,h,ha=>by
   cases ops with
   | nil=>simp only[Lt] at h; exact ⟨regs,σ,h,List.prefix_rfl⟩
   | cons io rest=>
     have one:(Lg P call (qf io.1).1 io.2.op io.2.type (gn regs) σ fun v σ'=>W8 (qf io.1).2 regs σ σ' (Lt P call qf all fuel ρ known rest (LL regs io.2.dst (some v)) σ' K))=some r → ∃ regs' σ',K regs' σ'=some r∧σ <+: σ':=by
      intro h
      obtain ⟨v,σ1,h1,h2⟩:=oJ hcall (ha io (by simp)) h
      obtain ⟨regs',σ',g1,g2⟩:=Pa hcall fuel (UL h1).1 (fun io' h'=>ha io' (by simp[h']))
      exact ⟨regs',σ',g1,h2.trans g2⟩
     simp only[Lt] at h
     split at h
     ·exact one h
     ·rename_i j want hg
      cases hk:known.contains (j,want) with
      | true=>
        rw[hk] at h
        simp only[cond_true] at h
        split at h
        ·rename_i b hr
         cases hbw:(b == want) with
         | false=>rw[hbw] at h; cases h
         | true=>rw[hbw] at h; exact one h
        ·cases h
      | false=>
        rw[hk] at h
        simp only[cond_false] at h
        split at h
        ·cases h
        ·rename_i body p after hsp
         have hrest:=T7 hsp
         simp only at hrest
         split at h
         ·rename_i b hr
          simp only[Option.bind_eq_some_iff] at h
          obtain ⟨⟨rb,σ1⟩,h1,h2⟩:=h
          rw[pb] at h1
          have fin:∀ (regs':B4) (σ':Aa),(((p.2.dst.bind fun d=>regs'.getD d none).bind DF).bind fun r=>some (r,σ'))=some (rb,σ1)→σ'=σ1:=by
           intro regs' σ' hq
           rw[Option.bind_eq_some_iff] at hq
           obtain ⟨x,hx,hxx⟩:=hq
           cases hxx
           rfl
          have hmem:∀ io' ∈ io::(body++[p]),Yz P S io'.2=true:=by
           intro io' h'
           apply ha
           rw[hrest]
           simp at h' ⊢
           rcases h' with h' | h' | h' <;> simp[h']
          have grp:σ <+: σ1:=by
           cases hbw:(b == want) with
           | true=>
             rw[hbw] at h1
             simp only[cond_true] at h1
             obtain ⟨regs',σ',g1,g2⟩:=Pa hcall fuel h1 hmem
             rw[← fin _ _ g1]; exact g2
           | false=>
             rw[hbw] at h1
             simp only[cond_false,Option.bind_eq_some_iff] at h1
             obtain ⟨regs2,hs,h1⟩:=h1
             obtain ⟨regs',σ',g1,g2⟩:=Pa hcall fuel h1 (fun io' h'=>hmem io' (by simp at h'; simp[h']))
             rw[← fin _ _ g1]; exact g2
          obtain ⟨regs',σ',g1,g2⟩:=Pa hcall fuel h2 (fun io' h'=>ha io' (by rw[hrest]; simp[h']))
          exact ⟨regs',σ',g1,grp.trans g2⟩
         ·cases h
theorem dP {regs:B4} {r:Ay} {x:Bm} {σ:Aa}:∀ {os:List (Nat × Kd)} {acc:List Value→List Value},bG regs os (fun vs=>some (x,acc vs,σ))=some r→r.2.2=σ
 | [],acc,h=>by simp only[bG] at h; cases h; rfl
 | (t,k)::os,acc,h=>by
   simp only[bG,Option.bind_eq_some_iff] at h
   obtain ⟨v,_,h⟩:=h
   exact dP (acc:=fun vs=>acc (v::vs)) h
theorem X4 {exits:List (Bm × List (Nat × Kd))} {x:Bm} {regs:B4} {σ:Aa} {r:Ay} (h:pack exits x regs σ=some r):r.2.2=σ:=by
 unfold pack at h
 simp only[Option.bind_eq_some_iff] at h
 obtain ⟨outs,_,h⟩:=h
 exact dP (acc:=id) h
theorem cw {x:Bm} {K:Bm→List (Nat × Kd)→Option ρ} {r:ρ}:∀ {es:List (Bm × List (Nat × Kd))},YF x K es=some r → ∃ y outs,K y outs=some r
 | [],h=>by cases h
 | e::es,h=>by
   simp only[YF] at h
   split at h
   ·exact ⟨_,_,h⟩
   ·exact cw h
theorem nH {ks:List Kd}:∀ {l:List Value} {K:List Value→Option ρ} {r:ρ},fe ks l K=some r → ∃ vs,K vs=some r:=by
 induction ks with
 | nil=>intro l K r h; exact ⟨_,h⟩
 | cons k ks ih=>
   intro l K r h
   simp only[fe,Option.bind_eq_some_iff] at h
   obtain ⟨v,_,h⟩:=h
   obtain ⟨vs,h⟩:=ih (Ux h)
   exact ⟨_,h⟩
theorem cx {h:Hint} {c:Code} {regs:B4} {r1:Ay} {K:Bm→B4→Aa→Option ρ} {r:ρ} (hu:unpack h c regs r1 K=some r):∃ x regs2,K x regs2 r1.2.2=some r:=by
 unfold unpack at hu
 obtain ⟨y,outs,hu⟩:=cw hu
 obtain ⟨vs,hu⟩:=nH hu
 exact ⟨_,_,hu⟩
theorem bu {B:B4→Aa→(Bm→B4→Aa→Option Ay)→Option Ay} {h:Hint} (hB:∀ regs σ K r,B regs σ K=some r → ∃ x regs' σ',K x regs' σ'=some r∧σ <+: σ'):∀ (n:Nat) {regs:B4} {σ:Aa} {r:Ay},Zb B h n regs σ=some r→σ <+: r.2.2
 | 0,_,_,_,e=>by cases e
 | n+1,regs,σ,r,e=>by
   simp only[Zb] at e
   obtain ⟨x,regs',σ',g1,g2⟩:=hB _ _ _ _ e
   cases x with
   | normal=>exact g2.trans (bu hB n g1)
   | exit i=>rw[X4 g1]; exact g2
   | ret=>rw[X4 g1]; exact g2
theorem mi {S:FuncId→Bool} {call:Ho} (hcall:∀ f args σ v σ',S f=true→call f args σ=some (v,σ')→σ <+: σ') {H:Hints} {n:Nat}:∀ (c:Code) {ρ:Type} {regs:B4} {σ:Aa} {K:Bm→B4→Aa→Option ρ} {r:ρ},
  QT P S c=true→exec P call H n c ρ regs σ K=some r → ∃ x regs' σ',K x regs' σ'=some r∧σ <+: σ':=by
 intro c
 induction c with
 | skip=>intro ρ regs σ K r ha h; exact ⟨_,_,_,h,List.prefix_rfl⟩
 | exit i=>intro ρ regs σ K r ha h; exact ⟨_,_,_,h,List.prefix_rfl⟩
 | ret=>intro ρ regs σ K r ha h; exact ⟨_,_,_,h,List.prefix_rfl⟩
 | region id ops draw=>
   intro ρ regs σ K r ha h
   simp only[exec] at h
   simp only[QT,List.all_eq_true] at ha
   cases hd:(draw && !Wr P ops.toList (Q5 P ops.toList draw)) with
   | true=>rw[hd] at h; cases h
   | false=>
     rw[hd] at h
     simp only[cond_false] at h
     obtain ⟨regs',σ',g1,g2⟩:=Pa hcall _ h (by
      intro io hio
      simp only[List.mem_map] at hio
      obtain ⟨x,hx,rfl⟩:=hio
      exact ha _ (by
       have:=List.mem_zipIdx hx
       obtain ⟨_,h2,h3⟩:=this
       simp only at h3 ⊢
       rw[h3]; exact List.getElem_mem _))
     exact ⟨_,_,_,g1,g2⟩
 | seq a b iha ihb=>
   intro ρ regs σ K r ha h
   simp only[exec] at h
   simp only[QT,Bool.and_eq_true] at ha
   obtain ⟨x,regs',σ',g1,g2⟩:=iha ha.1 h
   cases x with
   | normal=>
     obtain ⟨y,regs2,σ2,k1,k2⟩:=ihb ha.2 g1
     exact ⟨y,regs2,σ2,k1,g2.trans k2⟩
   | exit i=>exact ⟨_,_,_,g1,g2⟩
   | ret=>exact ⟨_,_,_,g1,g2⟩
 | cond c a b iha ihb=>
   intro ρ regs σ K r ha h
   simp only[exec] at h
   simp only[QT,Bool.and_eq_true] at ha
   split at h
   ·rename_i bb hb
    split at h
    ·cases bb with
     | true=>exact iha ha.1 h
     | false=>exact ihb ha.2 h
    ·simp only[Option.bind_eq_some_iff] at h
     obtain ⟨r1,h1,h2⟩:=h
     have hp:σ <+: r1.2.2:=by
      cases bb with
      | true=>
        obtain ⟨x,regs',σ',g1,g2⟩:=iha ha.1 h1
        rw[X4 g1]; exact g2
      | false=>
        obtain ⟨x,regs',σ',g1,g2⟩:=ihb ha.2 h1
        rw[X4 g1]; exact g2
     obtain ⟨x,regs2,k⟩:=cx h2
     exact ⟨x,regs2,_,k,hp⟩
   ·cases h
 | block id c ih=>
   intro ρ regs σ K r ha h
   simp only[exec] at h
   simp only[QT] at ha
   obtain ⟨x,regs',σ',g1,g2⟩:=ih ha h
   cases x with
   | normal=>exact ⟨_,_,_,g1,g2⟩
   | exit i=>
     simp only at g1
     split at g1
     ·exact ⟨_,_,_,g1,g2⟩
     ·exact ⟨_,_,_,g1,g2⟩
   | ret=>exact ⟨_,_,_,g1,g2⟩
 | loop c ih=>
   intro ρ regs σ K r ha h
   simp only[exec] at h
   simp only[QT] at ha
   split at h
   ·cases h
   ·simp only[Option.bind_eq_some_iff] at h
    obtain ⟨r1,h1,h2⟩:=h
    have hp:=bu (fun regs σ K r e=>ih ha e) n h1
    obtain ⟨x,regs2,k⟩:=cx h2
    exact ⟨x,regs2,_,k,hp⟩
 | _=>intro ρ regs σ K r ha h; simp[QT] at ha
def WV (X:Ext):Prop:=∀ f g,X f=some g → ∀ args σ v σ',g args σ=some (v,σ')→σ <+: σ'
theorem lh {X:Ext} (hX:WV X) {H:FuncId→Hints}:∀ (d k:Nat) (f:FuncId) (args:List Value) (σ:Aa) (v:Value) (σ':Aa),kQ P d f=true→fn P X H k f args σ=some (v,σ')→σ <+: σ'
 | 0,_,_,_,_,_,_,h,_=>by cases h
 | d+1,0,_,_,_,_,_,_,h=>by cases h
 | d+1,k+1,f,args,σ,v,σ',ha,h=>by
   have ih:=lh hX (H:=H) d k
   simp only[fn] at h
   split at h
   ·rename_i g hg
    exact hX f g hg args σ v σ' h
   ·split at h
    ·cases h
    ·rename_i F hF
     simp only[kQ,hF] at ha
     split at h
     ·cases h
     ·rename_i c hb
      rw[hb] at ha
      simp only at ha
      split at h
      ·cases h
      ·obtain ⟨x,regs',σ1,hK,hp⟩:=mi ih c ha h
       have:σ'=σ1:=by
        unfold fin at hK
        split at hK
        ·cases hK
        ·simp only[Option.bind_eq_some_iff] at hK
         obtain ⟨vs,_,hK⟩:=hK
         cases hK; rfl
       rw[this]; exact hp
end Go.AX
end
section
namespace Go.AX
open Go
variable {ρ:Type} {P:Program} [AF]
def sk (P:Program) (μ:Mu) (σ:Aa) (w:World) (v:Value) (σ':Aa) (e:Ending) (w':World):Prop:=
 ∃ μ' v',e = .returned v'∧RV μ' v v'∧R P μ' σ' w'∧Step μ σ w μ' σ' w'
def SK (P:Program) (call:Ho):Prop:=
 ∀ f args σ v σ',call f args σ=some (v,σ')→σ.length≤σ'.length∧(gH P f=true→σ <+: σ')∧(∃ F,P.funcs[f]?=some F∧F.body.isSome=true∧(F.name == "runtime.NumGoroutine")=false) ∧
  ∀ (μ:Mu) (w:World) (cargs:Array Value),R P μ σ w→Ii μ σ.length σ'.length→J7 μ args cargs.toList→Calls P f cargs w (sk P μ σ w v σ')
def lP (P:Program) (o:Oper) (a:Act) (w:World) (μ:Mu) (σ:Aa) (v:Value) (σ':Aa):Prop:=
 ∀ (next:Act→World→Prop) (Q:Exit→Act→World→Prop),(∀ μ' v' w',RV μ' v v'→R P μ' σ' w'→Step μ σ w μ' σ' w'→next (a.put o.dst v') w')→o.wp P a w next Q
theorem Rm {o:Oper} {a:Act} {w:World} {μ:Mu} {σ σ':Aa} {v:Value} (h:kM P μ σ w v σ' ((execOp a.eval o).run P w)):lP P o a w μ σ v σ':=by
 intro next Q hn
 obtain ⟨μ',v',w',hres,h1,h2,h3⟩:=h
 unfold Oper.wp
 rcases hres with hres | ⟨hres,rfl⟩
 ·rw[hres,Oper.upon_value]; exact hn μ' v' w' h1 h2 h3
 ·rw[hres,Oper.upon_skip]; exact hn μ' undef w' h1 h2 h3
theorem fE {o:Oper} {a:Act} {w:World} {μ:Mu} {σ:Aa} {v:Value} {e:Operand→Option Value} (h:Wl P o e v) (hR:R P μ σ w) (he:∀ x u,e x=some u→RV μ u (a.eval x)):lP P o a w μ σ v σ:=by
 obtain ⟨v',h1,h2⟩:=h μ w a.eval he
 exact Rm ⟨μ,v',w,.inl h1,h2,hR,Step.refl _ _ _⟩
theorem kj {o:Oper} {a:Act} {w:World} {μ:Mu} {σ:Aa} {v:Value} {e:Operand→Option Value} (h:ZX P o e σ v) (hR:R P μ σ w) (he:∀ x u,e x=some u→RV μ u (a.eval x)):lP P o a w μ σ v σ:=by
 obtain ⟨v',h1,h2⟩:=h μ w a.eval hR he
 exact Rm ⟨μ,v',w,.inl h1,h2,hR,Step.refl _ _ _⟩
theorem fJ {σ σ':Aa} {m:Option ρ} {r:ρ} (h:Vs σ σ' m=some r):σ <+: σ'∧m=some r:=by
 unfold Vs at h
 cases hq:AF.q σ σ' with
 | true=>rw[hq] at h; exact ⟨AF.ok hq,h⟩
 | false=>rw[hq] at h; cases h
theorem kA {t:TypeId} {nm:String} {f:FuncId} {w:World} {v:Value} (h:Tk P t nm=some f):(method (P.types.size+Made.depth) t v nm).run P w = .ok (f,v) w:=by
 unfold Tk at h
 split at h
 ·cases h
 rename_i i hi
 split at h
 ·cases h
 rename_i m hm
 have hti:(typeInfo t).run P w = .ok i w:=by
  simp[typeInfo,hi,go_sem]
 have hd:P.types.size+Made.depth=(P.types.size+Made.depth-1)+1:=by
  have:0<Made.depth:=by decide
  omega
 rw[hd,method]
 split at h
 ·rename_i h1 h2 h3
  cases h
  simp only[Sem.run_bind,hti,Result.andThen_ok,hm,Sem.run_pure,h1,follow,h2,receiverAt,run_underlying h3,Place.get]
 ·rename_i h1 h2 h3
  cases h
  simp only[Sem.run_bind,hti,Result.andThen_ok,hm,Sem.run_pure,h1,follow,h2,receiverAt,run_underlying h3,Place.get]
 ·cases h
theorem oL {call:Ho} (hcall:SK P call) {c:Call} {fo:Operand} {q:Bool} {ty:TypeId} {e:Operand→Option Value} {σ:Aa} {K:Value→Aa→Option ρ} {r:ρ} {o:Oper} (ho:o.op = .call c) (hc:c.callee = .value fo)
  (h:Lg P call q (.call c) ty e σ K=some r):∃ v σ',K v σ'=some r∧σ.length≤σ'.length∧(q=true→σ <+: σ') ∧
   ∀ (a:Act) (μ:Mu) (w:World),R P μ σ w→Ii μ σ.length σ'.length→(∀ x u,e x=some u→RV μ u (a.eval x))→lP P o a w μ σ v σ':=by
 simp only[Lg,hc,Option.bind_eq_some_iff] at h
 obtain ⟨fv,hfv,h⟩:=h
 obtain ⟨vs,h1,hvs⟩:=Nv h
 clear h
 simp only[Option.bind_eq_some_iff] at h1
 obtain ⟨⟨v,σ'⟩,hcl,h1⟩:=h1
 have hK:K v σ'=some r∧(q=true→kX P fv=false→σ <+: σ'):=by
  cases hb:(q && !kX P fv) with
  | true=>
    rw[hb] at h1
    simp only[OY,cond_true] at h1
    obtain ⟨h2,h3⟩:=fJ h1
    exact ⟨SO h3,fun _ _=>h2⟩
  | false=>
    rw[hb] at h1
    simp only[OY,cond_false] at h1
    refine ⟨SO h1,fun hq hv=>?_⟩
    rw[hq,hv] at hb; cases hb
 unfold O2 at hcl
 split at hcl
 rotate_left
 ·rename_i nm first cap
  split at hcl
  rotate_left
  ·cases hcl
  rename_i t rv rest hl
  simp only[Option.bind_eq_some_iff] at hcl
  obtain ⟨f,hm,hcl⟩:=hcl
  obtain ⟨hlen,hcalm,⟨F,hF,hbody,hname⟩,hcalls⟩:=hcall _ _ _ _ _ hcl
  refine ⟨v,σ',hK.1,hlen,fun hq=>hK.2 hq rfl,fun a μ w hR hfr he=>?_⟩
  intro next Q hn
  have hrf:=he fo _ hfv
  generalize hafo:a.eval fo=af at hrf
  cases hrf with
  | @func _ _ first' _ cap' h1' h2'=>
    have hargs:=h1'.append (hvs μ a.eval he)
    rw[hl] at hargs
    generalize hll:first'.toList++c.args.toList.map a.eval=ll at hargs
    cases hargs with
    | cons hrv hrest=>
    cases hrv with
    | iface hrv=>
    rename_i rest' rv'
    have harr:first'++c.args.map a.eval=(Value.iface t rv'::rest').toArray:=by
     apply Array.toList_inj.1; simpa using hll
    have hc':=hcalls μ w (#[rv']++rest'.toArray) hR hfr (by simpa using J7.cons hrv hrest)
    have hmeth:=kA (w:=w) (v:=rv') hm
    have hrun:(execOp a.eval o).run P w = .ok (.enter f (#[rv']++rest'.toArray)) w:=by
     have hex:execOp a.eval o=(do let d ← resolve a.eval c o.type; invoke d.target d.args:Sem Next):=by
      unfold execOp; rw[ho]
     rw[hex]
     have hb:F.body.isNone=false:=by cases hq:F.body <;> simp_all
     have hmeth':(method (P.types.size+Made.depth) t rv' nm).run P w = .ok (f,rv') w:=hmeth
     have hx:((Value.iface t rv'::rest').toArray.extract 1 (Value.iface t rv'::rest').toArray.size)=rest'.toArray:=by simp
     simp only[resolve,hc,hafo,Deferred.ofValue,pure_bind,invoke,harr,List.getElem?_toArray,List.getElem?_cons_zero,callMethod,hx,callFunc,Sem.run_bind,run_program,Result.andThen_ok,hmeth',hF,hname,hb,Bool.false_eq_true,if_false,Sem.run_pure]
    unfold Oper.wp
    rw[hrun,Oper.upon_enter]
    refine hc'.mono ?_
    rintro e' w' ⟨μ',v',rfl,g1,g2,g3⟩
    exact hn μ' v' w' g1 g2 g3
 ·cases hcl
 rename_i f first cap
 obtain ⟨hlen,hcalm,⟨F,hF,hbody,hname⟩,hcalls⟩:=hcall _ _ _ _ _ hcl
 refine ⟨v,σ',hK.1,hlen,(fun hq=>by
  cases hcv:gH P f with
  | true=>exact hcalm hcv
  | false=>exact hK.2 hq hcv),fun a μ w hR hfr he=>?_⟩
 intro next Q hn
 have hrf:=he fo _ hfv
 generalize hafo:a.eval fo=af at hrf
 cases hrf with
 | @func _ _ first' _ cap' h1' h2'=>
   have hargs:=(h1'.append (hvs μ a.eval he)).append h2'
   have hc':=hcalls μ w (first'++(c.args.map a.eval)++cap') hR hfr (by simpa using hargs)
   have hrun:(execOp a.eval o).run P w = .ok (.enter f (first'++(c.args.map a.eval)++cap')) w:=by
    have hex:execOp a.eval o=(do let d ← resolve a.eval c o.type; invoke d.target d.args:Sem Next):=by
     unfold execOp; rw[ho]
    rw[hex]
    have hb:F.body.isNone=false:=by cases hq:F.body <;> simp_all
    simp only[resolve,hc,hafo,Deferred.ofValue,pure_bind,invoke,callFunc,Sem.run_bind,run_program,Result.andThen_ok,hF,hname,hb,Bool.false_eq_true,if_false,Sem.run_pure]
   unfold Oper.wp
   rw[hrun,Oper.upon_enter]
   refine hc'.mono ?_
   rintro e' w' ⟨μ',v',rfl,g1,g2,g3⟩
   exact hn μ' v' w' g1 g2 g3
structure Uo (P:Program) (o:Oper) (e:Operand→Option Value) (σ:Aa) (v:Value):Prop where
 load:∀ T x,o.op = .load T x → ∃ a,e x=some (.pointer (some a)) ∧ ∀ σ2:Aa,σ2[a.block]?=σ[a.block]?→ZX P o e σ2 v
 fa:∀ T x f,o.op = .fieldAddr T x f → ∃ a a',e x=some (.pointer (some a))∧v = .pointer (some a')∧a'.block=a.block
theorem US {o:Oper} {e:Operand→Option Value} {σ:Aa} {v:Value} (h1:∀ T x,o.op ≠ .load T x) (h2:∀ T x f,o.op ≠ .fieldAddr T x f):Uo P o e σ v:=
 ⟨fun T x h=>absurd h (h1 T x),fun T x f h=>absurd h (h2 T x f)⟩
theorem ZI {k:Kd} {σ:Aa} {b o:Nat} (K:Value→Option ρ):pA k σ b o K=(pA k σ b o some).bind K:=by
 cases k <;> simp[pA,Option.bind_assoc]
theorem Xw {σ:Aa} {b:Nat}:∀ (ks:List Kd) (o:Nat) {ρ:Type} (K:List Value→Option ρ),bm ks σ b o K=(bm ks σ b o some).bind K
 | [],o,ρ,K=>rfl
 | k::ks,o,ρ,K=>by
   simp only[bm]
   rw[ZI,ZI (K:=fun v=>bm ks σ b (o+1) fun vs=>some (v::vs)),Option.bind_assoc]
   congr 1; funext v
   rw[Xw ks (o+1) (fun vs=>K (v::vs)),Xw ks (o+1) (fun vs=>some (v::vs)),Option.bind_assoc]
   congr 1
theorem rD {σ σ2:Aa} {b o:Nat} (h:σ2[b]?=σ[b]?):Gy σ2 b o=Gy σ b o:=by unfold Gy; rw[h]
theorem o9 {σ σ2:Aa} {k:Kd} {b o:Nat} (h:σ2[b]?=σ[b]?) (K:Value→Option ρ):pA k σ2 b o K=pA k σ b o K:=by
 cases k <;> simp only[pA,Ai,WS,oA,Js,Ew,qg,rD h]
theorem lx {σ σ2:Aa} {b:Nat} (h:σ2[b]?=σ[b]?):∀ (ks:List Kd) (o:Nat) (K:List Value→Option ρ),bm ks σ2 b o K=bm ks σ b o K
 | [],o,K=>rfl
 | k::ks,o,K=>by
   simp only[bm]
   rw[o9 h]
   congr 1; funext v
   exact lx h ks (o+1) _
theorem cQ {T:TypeId} {x:Operand} {call:Ho} {q:Bool} {ty:TypeId} {e:Operand→Option Value} {σ:Aa} {K:Value→Aa→Option ρ} {r:ρ} {o:Oper} (ho:o.op = .load T x)
  (h:Lg P call q (.load T x) ty e σ K=some r):∃ v,K v σ=some r∧ZX P o e σ v∧Uo P o e σ v:=by
 simp only[Lg,Option.bind_eq_some_iff] at h
 obtain ⟨p,hp,h⟩:=h
 split at h
 rotate_left
 ·cases h
 rename_i a0
 obtain ⟨a,ha0,h2⟩:=Option.bind_eq_some_iff.1 h
 clear h
 subst ha0
 have h:=h2
 clear h2
 have main:∃ v,K v σ=some r ∧ ∀ σ2:Aa,σ2[a.block]?=σ[a.block]?→Lg P call q (.load T x) ty e σ2 (fun v _=>some v)=some v:=by
  cases hb:Lr P T with
  | true=>
    rw[hb,cond_true] at h
    split at h
    rotate_left
    ·cases h
    rename_i hsz
    rw[Xw] at h
    obtain ⟨vs,h1,h2⟩:=Option.bind_eq_some_iff.1 h
    refine ⟨_,h2,fun σ2 hq=>?_⟩
    simp only[Lg,hp,Option.bind_some,hb,cond_true]
    rw[if_pos hsz,Xw,lx hq,h1]; rfl
  | false=>
    rw[hb,cond_false] at h
    obtain ⟨d,hd,h⟩:=Option.bind_eq_some_iff.1 h
    rw[ZI] at h
    obtain ⟨v,h1,h2⟩:=Option.bind_eq_some_iff.1 h
    refine ⟨v,h2,fun σ2 hq=>?_⟩
    simp only[Lg,hp,Option.bind_some,hb,cond_false,hd]
    rw[ZI,o9 hq,h1]; rfl
 obtain ⟨v,hK,hat⟩:=main
 have at2:∀ σ2:Aa,σ2[a.block]?=σ[a.block]?→ZX P o e σ2 v:=fun σ2 hq=>by
  obtain ⟨v2,h1,h2⟩:=il ho (hat σ2 hq)
  cases h1
  exact h2
 refine ⟨v,hK,at2 σ rfl,⟨fun T' x' h'=>?_,fun T' x' f' h'=>by rw[ho] at h'; cases h'⟩⟩
 rw[ho] at h'
 cases h'
 exact ⟨a,hp,at2⟩
theorem ik {T:TypeId} {x:Operand} {fl:Nat} {call:Ho} {q:Bool} {e:Operand→Option Value} {σ:Aa} {K:Value→Aa→Option ρ} {r:ρ} {o:Oper} (ho:o.op = .fieldAddr T x fl)
  (h:Lg P call q o.op o.type e σ K=some r):∃ v,K v σ=some r∧Wl P o e v∧Uo P o e σ v:=by
 have h0:=h
 rw[ho] at h
 simp only[Lg,Option.bind_eq_some_iff] at h
 obtain ⟨ot,hot,p,hp,h⟩:=h
 split at h
 rotate_left
 ·cases h
 obtain ⟨a,ha0,h1⟩:=Option.bind_eq_some_iff.1 h
 clear h
 subst ha0
 obtain ⟨s,hs,h2⟩:=Option.bind_eq_some_iff.1 h1
 clear h1
 split at h2
 ·cases h2
 rename_i hs0
 have e2:Lg P call q o.op o.type e σ (fun v _=>some v)=some (.pointer (some ⟨a.block,a.off+ot.1,none⟩)):=by
  rw[ho]
  simp only[Lg,hot,hp,hs,Option.bind_some,hs0,if_false]
 obtain ⟨v2,g1,g2⟩:=X3 (by unfold Io; rw[ho]) e2
 cases g1
 refine ⟨_,h2,g2,⟨fun T' x' h'=>(by rw[ho] at h'; cases h'),fun T' x' f' h'=>?_⟩⟩
 rw[ho] at h'
 cases h'
 exact ⟨a,_,hp,rfl,rfl⟩
theorem sM {call:Ho} (hcall:SK P call) {o:Oper} {q:Bool} {e:Operand→Option Value} {σ:Aa} {K:Value→Aa→Option ρ} {r:ρ} (h:Lg P call q o.op o.type e σ K=some r):
  ∃ v σ',K v σ'=some r∧σ.length≤σ'.length ∧
   (∀ (a:Act) (μ:Mu) (w:World),R P μ σ w→Ii μ σ.length σ'.length→(∀ x u,e x=some u→RV μ u (a.eval x))→lP P o a w μ σ v σ') ∧
   (Io P o = .pure→σ'=σ∧Wl P o e v)∧(Io P o = .ld→σ'=σ)∧(Io P o = .al→(∀ c,o.op ≠ .call c)∨q=true→σ <+: σ')∧(isApp o=true→q=true→σ <+: σ')∧Uo P o e σ v:=by
 have hna:∀ {x:si},Io P o=x→x ≠ .lo→isApp o=true→False:=by
  intro x hx hne ha
  unfold isApp at ha
  split at ha
  ·rename_i c ho
   split at ha
   ·rename_i hcal
    simp only[Io,ho,hcal,cM] at hx
    exact hne hx.symm
   ·cases ha
  ·cases ha
 have nomore:∀ {c:si},Io P o=c→c ≠ .ld→c ≠ .pure → ∀ {σ:Aa} {v:Value},Uo P o e σ v:=by
  intro c hc h1 h2 σ v
  refine US (fun T x ho=>?_) (fun T x f ho=>?_)
  ·unfold Io at hc; rw[ho] at hc; exact h1 hc.symm
  ·unfold Io at hc; rw[ho] at hc; exact h2 hc.symm
 cases hc:Io P o with
 | pure=>
   have main:∃ v,K v σ=some r∧Wl P o e v∧Uo P o e σ v:=by
    by_cases hfa:∃ T x f,o.op = .fieldAddr T x f
    ·obtain ⟨T,x,f,ho⟩:=hfa
     exact ik ho h
    ·obtain ⟨v,h1,h2⟩:=X3 hc h
     exact ⟨v,h1,h2,US (fun T x ho=>by unfold Io at hc; rw[ho] at hc; cases hc) (fun T x f ho=>hfa ⟨T,x,f,ho⟩)⟩
   obtain ⟨v,h1,h2,h3⟩:=main
   exact ⟨v,σ,h1,Nat.le_refl _,fun a μ w hR hfr he=>fE h2 hR he,fun _=>⟨rfl,h2⟩,(fun h=>by (cases h)),(fun h=>by (cases h)),fun h=>(hna hc (by decide) h).elim,h3⟩
 | ld=>
   have main:∃ v,K v σ=some r∧ZX P o e σ v∧Uo P o e σ v:=by
    by_cases hl:∃ T x,o.op = .load T x
    ·obtain ⟨T,x,ho⟩:=hl
     rw[ho] at h
     exact cQ ho h
    ·obtain ⟨v,h1,h2⟩:=kl hc h
     exact ⟨v,h1,h2,US (fun T x ho=>hl ⟨T,x,ho⟩) (fun T x f ho=>by unfold Io at hc; rw[ho] at hc; cases hc)⟩
   obtain ⟨v,h1,h2,h3⟩:=main
   exact ⟨v,σ,h1,Nat.le_refl _,fun a μ w hR hfr he=>kj h2 hR he,(fun h=>by (cases h)),fun _=>rfl,(fun h=>by (cases h)),fun h=>(hna hc (by decide) h).elim,h3⟩
 | al=>
   have hc0:=hc
   by_cases hnc:∀ c,o.op ≠ .call c
   ·obtain ⟨v,x,h1,h2⟩:=oK hc hnc h
    exact ⟨v,σ++[x],h1,by simp,fun a μ w hR hfr he=>Rm (h2 μ w a.eval hR hfr he),fun h=>by (cases h),fun h=>by (cases h),fun _ _=>⟨[x],rfl⟩,fun h=>(hna hc (by decide) h).elim,nomore hc (by decide) (by decide)⟩
   ·have:∃ c,o.op = .call c:=by
     apply Classical.byContradiction
     intro hq
     exact hnc fun c hc=>hq ⟨c,hc⟩
    obtain ⟨c,ho⟩:=this
    cases hcal:c.callee with
    | builtin b=>
      simp only[Io,ho,hcal] at hc
      cases b <;> cases hm:UK P c.argTypes.toList <;> simp[hm,cM] at hc
    | invoke r m=>rw[ho] at h; simp only[Lg,hcal] at h; cases h
    | value fo=>
      rw[ho] at h
      obtain ⟨v,σ',h1,h2,h3,h4⟩:=oL hcall ho hcal h
      refine ⟨v,σ',h1,h2,h4,fun h=>by (cases h),fun h=>by (cases h),fun _ hq=>?_,fun h=>(hna hc0 (by decide) h).elim,nomore hc0 (by decide) (by decide)⟩
      rcases hq with hq | hq
      ·exact absurd ho (hq c)
      ·exact h3 hq
 | lo=>
   have main:∃ v σ',K v σ'=some r∧σ.length≤σ'.length∧lN P o e σ v σ'∧(isApp o=true→q=true→σ <+: σ'):=by
    have nap:∀ {x:Op},o.op=x→(∀ c,x ≠ .call c)→isApp o=true→False:=by
     intro x hx hc ha
     unfold isApp at ha
     split at ha
     ·rename_i c ho
      exact hc c (hx.symm.trans ho)
     ·cases ha
    cases ho:o.op
    case store=>
     rw[ho] at h
     obtain ⟨v,σ',a1,a2,a3⟩:=mN ho h
     exact ⟨v,σ',a1,a2,a3,fun ha=>(nap ho (by intro c hc; cases hc) ha).elim⟩
    case mapUpdate=>
     rw[ho] at h
     obtain ⟨v,σ',a1,a2,a3⟩:=cS ho h
     exact ⟨v,σ',a1,a2,a3,fun ha=>(nap ho (by intro c hc; cases hc) ha).elim⟩
    case call c=>
     rw[ho] at h
     simp only[Io,ho] at hc
     split at hc
     ·rename_i b hb
      by_cases hba:b = .append
      ·subst hba
       obtain ⟨v,σ',a1,a2,a3,a4⟩:=kk ho hb h
       exact ⟨v,σ',a1,a2,a3,fun _=>a4⟩
      ·obtain ⟨v,σ',a1,a2,a3⟩:=bF ho hb hba hc h
       exact ⟨v,σ',a1,a2,a3,fun ha=>absurd (rk ho hb ha) hba⟩
     ·cases hc
    all_goals (simp[Io,ho] at hc)
   obtain ⟨v,σ',h1,h2,h3,h4⟩:=main
   exact ⟨v,σ',h1,h2,fun a μ w hR hfr he=>Rm (h3 μ w a.eval hR hfr he),fun h=>by (cases h),fun h=>by (cases h),fun h=>by (cases h),h4,nomore hc (by decide) (by decide)⟩
end Go.AX
end
section
namespace Go.AX
open Go
variable {ρ:Type} {P:Program} [AF]
def Lh (E regs:B4):Prop:=∀ (t:Nat) (v:Value),regs.getD t none=some v→E.getD t none=some v
theorem Lh.refl (E:B4):Lh E E:=fun _ _ h=>h
theorem Lh.trans {a b c:B4} (h:Lh a b) (g:Lh b c):Lh a c:=fun t v e=>h t v (g t v e)
theorem LI (regs:B4) (d t:Nat) (v:Option Value):(regs.set d v).getD t none=if d=t∧d<regs.length then v else regs.getD t none:=by
 simp only[List.getD_eq_getElem?_getD,List.getElem?_set]
 by_cases h:d=t
 ·subst h
  by_cases h2:d<regs.length
  ·simp[h2]
  ·simp[h2]
 ·simp[h]
theorem Lh.put {E regs:B4} (h:Lh E regs) (hl:regs.length=E.length) (d:Option Nat) (v:Option Value):Lh (LL E d v) (LL regs d v):=by
 cases d with
 | none=>exact h
 | some d=>
   intro t u
   simp only[LL,LI]
   by_cases hc:d=t∧d<regs.length
   ·rw[if_pos hc,if_pos (by rw[← hl]; exact hc)]; exact id
   ·rw[if_neg hc,if_neg (by rw[← hl]; exact hc)]; exact h t u
theorem EF (regs:B4) (d:Option Nat) (v:Option Value):(LL regs d v).length=regs.length:=by
 cases d <;> simp[LL]
theorem nT {E regs:B4} (h:Lh E regs) {x:Operand} {u:Value} (hx:gn regs x=some u):gn E x=some u:=by
 cases x with
 | tmp t=>exact h t u hx
 | const v=>exact hx
 | global g=>exact hx
 | func f=>exact hx
theorem WH {all:List Oper} {E regs:B4} (h:Lh E regs) {j:Nat} {u:Value} (hx:P9 all regs j=some u):P9 all E j=some u:=by
 unfold P9 at hx ⊢
 split at hx
 ·exact h _ u hx
 ·cases hx
theorem So {e e':Operand→Option Value}:∀ {xs:List Operand} {K:List Value→Option ρ},(∀ x ∈ xs,e x=e' x)→p9 e xs K=p9 e' xs K
 | [],K,_=>rfl
 | x::xs,K,h=>by
   simp only[p9]
   rw[h x (by simp)]
   congr 1; funext v
   exact So fun y hy=>h y (by simp[hy])
theorem Ys {e e':Operand→Option Value}:∀ {xs:List (Nat × Operand)} {K:List (Nat × Value)→Option ρ},(∀ p ∈ xs,e p.2=e' p.2)→qS e xs K=qS e' xs K
 | [],K,_=>rfl
 | (i,x)::xs,K,h=>by
   simp only[qS]
   rw[h (i,x) (by simp)]
   congr 1; funext v
   exact Ys fun y hy=>h y (by simp[hy])
theorem Yr {e e':Operand→Option Value} {x:Option Operand} {K:Option Value→Option ρ} (h:∀ y,x=some y→e y=e' y):qR e x K=qR e' x K:=by
 cases x with
 | none=>rfl
 | some y=>simp only[qR]; rw[h y rfl]
theorem mK {call:Ho} {q:Bool} {op:Op} {ty:TypeId} {e e':Operand→Option Value} {σ:Aa} {K:Value→Aa→Option ρ} (h:∀ x ∈ op.operands,e x=e' x):Lg P call q op ty e σ K=Lg P call q op ty e' σ K:=by
 cases op <;> simp only[Op.operands] at h <;> simp only[Lg]
 case build t ps=>congr 1; funext z; exact Ys fun p hp=>h p.2 (by simpa using ⟨p.1,by simpa using hp⟩)
 case buildSlice t n ps=>congr 1; funext E; congr 1; congr 1; funext z; exact Ys fun p hp=>h p.2 (by simpa using ⟨p.1,by simpa using hp⟩)
 case makeFunc fn first captured=>
  rw[So (xs:=first.toList) fun x hx=>h x (by simp at hx; simp[hx])]
  congr 1; funext vs
  exact So fun x hx=>h x (by simp at hx; simp[hx])
 case call c=>
  cases hc:c.callee with
  | builtin b=>simp only; exact So fun x hx=>h x (by simp at hx; simp[Call.operands,hx])
  | invoke r m=>rfl
  | value f=>
    simp only
    rw[h f (by simp[Call.operands,hc])]
    congr 1; funext fv
    exact So fun x hx=>h x (by simp at hx; simp[Call.operands,hx])
 case slice t x lo hi mx=>
  congr 1; funext E; congr 1; funext s
  rw[h x (by simp)]
  congr 1; funext v
  rw[Yr fun y hy=>h y (by simp[hy])]
  congr 1; funext lo'
  rw[Yr fun y hy=>h y (by simp[hy])]
  congr 1; funext hi'
  rw[Yr fun y hy=>h y (by simp[hy])]
 case makeMap t r=>cases r <;> rfl
 all_goals (first | rfl | (simp_all; done))
open Classical in
noncomputable def Wa (o:Oper) (e:Operand→Option Value):Operand→Option Value:=fun x=>if x ∈ o.op.operands then e x else none
theorem Tt {o:Oper} {e:Operand→Option Value} {x:Operand} {u:Value} (h:Wa o e x=some u):x ∈ o.op.operands∧e x=some u:=by
 unfold Wa at h
 split at h
 ·exact ⟨‹_›,h⟩
 ·cases h
theorem mL {call:Ho} {q:Bool} {o:Oper} {ty:TypeId} {e:Operand→Option Value} {σ:Aa} {K:Value→Aa→Option ρ}:Lg P call q o.op ty e σ K=Lg P call q o.op ty (Wa o e) σ K:=
 mK fun x hx=>by unfold Wa; rw[if_pos hx]
structure ZC (P:Program) (o:Oper) (q:Bool) (e:Operand→Option Value) (σ:Aa) (v:Value) (σ':Aa):Prop where
 len:σ.length≤σ'.length
 wp:∀ (a:Act) (μ:Mu) (w:World),R P μ σ w→Ii μ σ.length σ'.length→(∀ x u,e x=some u→RV μ u (a.eval x))→lP P o a w μ σ v σ'
 pure:Io P o = .pure→σ'=σ∧Wl P o e v
 ld:Io P o = .ld→σ'=σ
 al:Io P o = .al→(∀ c,o.op ≠ .call c)∨q=true→σ <+: σ'
 app:isApp o=true→q=true→σ <+: σ'
 more:Uo P o e σ v
def yes (all:List Oper) (o:Oper) (regs:B4):Prop:=
 match o.guard with
 | none=>True
 | some (j,want)=>P9 all regs j=some (.bool want)
def no (all:List Oper) (o:Oper) (regs:B4):Prop:=
 ∃ j want,o.guard=some (j,want)∧((∃ b,P9 all regs j=some (.bool b)∧b≠want)∨P9 all regs j=some undef)
inductive Tr (P:Program) (qf:Nat→QF) (all:List Oper):List (Nat × Oper)→B4→Aa→B4→Aa→Prop
 | nil {E:B4} {σ:Aa}:Tr P qf all [] E σ E σ
 | step {i:Nat} {o:Oper} {rest:List (Nat × Oper)} {E regs E':B4} {σ σ1 σ':Aa} {v:Value} (hw:Lh E regs) (hy:yes all o regs) (hf:ZC P o (qf i).1 (Wa o (gn regs)) σ v σ1) (hk:Kept (qf i).2 E σ σ1)
   (ht:Tr P qf all rest (LL E o.dst (some v)) σ1 E' σ'):Tr P qf all ((i,o)::rest) E σ E' σ'
 | skip {i:Nat} {o:Oper} {rest:List (Nat × Oper)} {E regs E':B4} {σ σ':Aa} (hw:Lh E regs) (hn:no all o regs) (ht:Tr P qf all rest (LL E o.dst (some undef)) σ E' σ'):Tr P qf all ((i,o)::rest) E σ E' σ'
theorem Tr.append {qf:Nat→QF} {all:List Oper} {a b:List (Nat × Oper)} {E E1 E2:B4} {σ σ1 σ2:Aa} (h:Tr P qf all a E σ E1 σ1) (g:Tr P qf all b E1 σ1 E2 σ2):Tr P qf all (a++b) E σ E2 σ2:=by
 induction h with
 | nil=>exact g
 | step hw hy hf hk ht ih=>exact .step hw hy hf hk (ih g)
 | skip hw hn ht ih=>exact .skip hw hn (ih g)
theorem Tr.len {qf:Nat→QF} {all:List Oper} {a:List (Nat × Oper)} {E E1:B4} {σ σ1:Aa} (h:Tr P qf all a E σ E1 σ1):σ.length≤σ1.length∧E1.length=E.length:=by
 induction h with
 | nil=>exact ⟨Nat.le_refl _,rfl⟩
 | step hw hy hf hk ht ih=>exact ⟨Nat.le_trans hf.len ih.1,by rw[ih.2,EF]⟩
 | skip hw hn ht ih=>exact ⟨ih.1,by rw[ih.2,EF]⟩
theorem LQ {regs:B4} {d:Option Nat} {v:Option Value} {t:Nat} (h:d≠some t):(LL regs d v).getD t none=regs.getD t none:=by
 cases d with
 | none=>rfl
 | some d=>
   simp only[LL,LI]
   rw[if_neg]
   rintro ⟨rfl,_⟩; exact h rfl
theorem Tr.other {qf:Nat→QF} {all:List Oper} {a:List (Nat × Oper)} {E E1:B4} {σ σ1:Aa} (h:Tr P qf all a E σ E1 σ1) {t:Nat} (ht:∀ io ∈ a,io.2.dst≠some t):E1.getD t none=E.getD t none:=by
 induction h with
 | nil=>rfl
 | @step i o rest E regs E' σ σ1 σ' v hw hy hf _ _ ih=>exact (ih fun io hio=>ht io (by simp[hio])).trans (LQ (ht (i,o) (by simp)))
 | @skip i o rest E regs E' σ σ' hw hn _ ih=>exact (ih fun io hio=>ht io (by simp[hio])).trans (LQ (ht (i,o) (by simp)))
theorem Xp {t:Nat} {v:Value}:∀ {ops:List (Nat × Oper)} {regs:B4},(O6 regs ops).getD t none=some v→regs.getD t none=some v ∧ ∀ io ∈ ops,io.2.dst=some t→¬ t<regs.length
 | [],regs,h=>⟨h,by simp⟩
 | io::rest,regs,h=>by
   simp only[O6] at h
   obtain ⟨h1,h2⟩:=Xp h
   by_cases hd:io.2.dst=some t
   ·rw[hd] at h1
    simp only[LL,LI] at h1
    by_cases hl:t<regs.length
    ·simp[hl] at h1
    ·rw[if_neg (by simp[hl])] at h1
     refine ⟨h1,fun io' hio' hd'=>?_⟩
     exact hl
   ·rw[LQ hd] at h1
    refine ⟨h1,fun io' hio' hd'=>?_⟩
    rcases List.mem_cons.1 hio' with rfl | hio'
    ·exact absurd hd' hd
    ·have:=h2 io' hio' hd'; rwa [EF] at this
theorem bZ {qf:Nat→QF} {all:List Oper}:∀ {ops:List (Nat × Oper)} {regs regs' E:B4} (σ:Aa),T3 all ops regs=some regs'→Lh E regs→regs.length=E.length → ∃ E',Tr P qf all ops E σ E' σ∧Lh E' regs'∧regs'.length=E'.length
 | [],regs,regs',E,σ,h,hw,hl=>by
   simp[T3] at h; subst h; exact ⟨E,.nil,hw,hl⟩
 | io::rest,regs,regs',E,σ,h,hw,hl=>by
   simp only[T3] at h
   split at h
   ·cases h
   ·rename_i j want hg
    have done:no all io.2 regs→T3 all rest (LL regs io.2.dst (some undef))=some regs' → ∃ E',Tr P qf all (io::rest) E σ E' σ∧Lh E' regs'∧regs'.length=E'.length:=by
     intro hn h
     obtain ⟨E',h1,h2,h3⟩:=bZ σ h (hw.put hl _ _) (by rw[EF,EF]; exact hl)
     exact ⟨E',.skip hw hn h1,h2,h3⟩
    split at h
    ·rename_i b hr
     cases hbw:(b == want) with
     | true=>rw[hbw] at h; cases h
     | false=>
       rw[hbw] at h
       exact done ⟨j,want,hg,.inl ⟨b,hr,by simpa using hbw⟩⟩ h
    ·rename_i vs hr
     cases he:vs.toList.isEmpty with
     | false=>rw[he] at h; cases h
     | true=>
       rw[he] at h
       refine done ⟨j,want,hg,.inr ?_⟩ h
       have:vs = #[]:=by
        cases vs with
        | mk l=>cases l <;> simp_all
       rw[hr,this]; rfl
    ·cases h
theorem jg {all:List Oper} {E regs:B4} {j:Nat} {b:Bool} (hw:Lh E regs) (h:P9 all regs j=some (.bool b)):Lh E (LL regs (Sn all j) (some (.bool b))):=by
 unfold P9 at h
 split at h
 ·rename_i d hd
  rw[hd]
  intro t v
  simp only[LL,LI]
  split
  ·rename_i hc
   intro hv
   rw[← hc.1]
   rw[← hv]
   exact hw _ _ h
  ·exact hw t v
 ·cases h
theorem S8 {call:Ho} (hcall:SK P call) {qf:Nat→QF} {all:List Oper}:∀ (fuel:Nat) {ρ:Type} {known:List (Nat × Bool)} {ops:List (Nat × Oper)} {regs E:B4} {σ:Aa} {K:B4→Aa→Option ρ} {r:ρ},
  Lt P call qf all fuel ρ known ops regs σ K=some r→Lh E regs→regs.length=E.length → ∃ regs' E' σ',Tr P qf all ops E σ E' σ'∧Lh E' regs'∧regs'.length=E'.length∧K regs' σ'=some r
 | 0,ρ,known,ops,regs,E,σ,K,r,h,hw,hl=>by simp[Lt] at h
 | fuel+1,ρ,known,ops,regs,E,σ,K,r,h,hw,hl=>by
   cases ops with
   | nil=>simp only[Lt] at h; exact ⟨regs,E,σ,.nil,hw,hl,h⟩
   | cons io rest=>
     have one:yes all io.2 regs→(Lg P call (qf io.1).1 io.2.op io.2.type (gn regs) σ fun v σ'=>W8 (qf io.1).2 regs σ σ' (Lt P call qf all fuel ρ known rest (LL regs io.2.dst (some v)) σ' K))=some r →
       ∃ regs' E' σ',Tr P qf all (io::rest) E σ E' σ'∧Lh E' regs'∧regs'.length=E'.length∧K regs' σ'=some r:=by
      intro hy h
      rw[mL] at h
      obtain ⟨v,σ1,h1,h2,h3,h4,h5,h6⟩:=sM hcall h
      obtain ⟨h1,hk⟩:=UL h1
      obtain ⟨regs',E',σ',g1,g2,g3,g4⟩:=S8 hcall fuel h1 (hw.put hl _ _) (by rw[EF,EF]; exact hl)
      exact ⟨regs',E',σ',.step hw hy ⟨h2,h3,h4,h5,h6.1,h6.2.1,h6.2.2⟩ (fun t ht=>(hk t ht).imp fun a ha=>⟨hw t _ ha.1,ha.2⟩) g1,g2,g3,g4⟩
     simp only[Lt] at h
     split at h
     ·rename_i hg
      exact one (by unfold yes; rw[hg]; trivial) h
     ·rename_i j want hg
      cases hk:known.contains (j,want) with
      | true=>
        rw[hk] at h
        simp only[cond_true] at h
        split at h
        ·rename_i b hr
         cases hbw:(b == want) with
         | false=>rw[hbw] at h; cases h
         | true=>
           rw[hbw] at h
           have:b=want:=by simpa using hbw
           subst this
           exact one (by unfold yes; rw[hg]; exact hr) h
        ·cases h
      | false=>
        rw[hk] at h
        simp only[cond_false] at h
        split at h
        ·cases h
        ·rename_i body p after hsp
         have hrest:=T7 hsp
         simp only at hrest
         split at h
         ·rename_i b hr
          simp only[Option.bind_eq_some_iff] at h
          obtain ⟨⟨rb,σ1⟩,h1,h2⟩:=h
          rw[pb] at h1
          have grp:∃ regs1 E1,Tr P qf all (io::(body++[p])) E σ E1 σ1∧Lh E1 regs1∧(p.2.dst.bind fun d=>regs1.getD d none)=some (.bool rb):=by
           have fin:∀ (regs':B4) (σ':Aa),(((p.2.dst.bind fun d=>regs'.getD d none).bind DF).bind fun r=>some (r,σ'))=some (rb,σ1)→(p.2.dst.bind fun d=>regs'.getD d none)=some (.bool rb)∧σ'=σ1:=by
            intro regs' σ' hq
            rw[Option.bind_eq_some_iff] at hq
            obtain ⟨x,hx,hxx⟩:=hq
            rw[Option.bind_eq_some_iff] at hx
            obtain ⟨y,hy,hyy⟩:=hx
            cases hxx
            refine ⟨?_,rfl⟩
            rw[hy]
            cases y <;> simp[DF] at hyy
            rw[hyy]
           cases hbw:(b == want) with
           | true=>
             rw[hbw] at h1
             simp only[cond_true] at h1
             have:b=want:=by simpa using hbw
             subst this
             obtain ⟨regs',E',σ',g1,g2,g3,g4⟩:=S8 hcall fuel h1 (jg hw hr) (by rw[EF]; exact hl)
             obtain ⟨k1,rfl⟩:=fin _ _ g4
             exact ⟨regs',E',g1,g2,k1⟩
           | false=>
             rw[hbw] at h1
             simp only[cond_false,Option.bind_eq_some_iff] at h1
             obtain ⟨regs2,hs,h1⟩:=h1
             have:b = !want:=by
              have:b≠want:=by simpa using hbw
              cases b <;> cases want <;> simp_all
             subst this
             obtain ⟨E2,s1,s2,s3⟩:=bZ (P:=P) (qf:=qf) σ hs (jg hw hr) (by rw[EF]; exact hl)
             obtain ⟨regs',E',σ',g1,g2,g3,g4⟩:=S8 hcall fuel h1 s2 s3
             obtain ⟨k1,rfl⟩:=fin _ _ g4
             exact ⟨regs',E',s1.append g1,g2,k1⟩
          obtain ⟨regs1,E1,t1,t2,t3⟩:=grp
          have hE1:=t1.len.2
          have hw2:Lh E1 (LL (O6 regs (io::body)) p.2.dst (some (.bool rb))):=by
           cases hpd:p.2.dst with
           | none=>rw[hpd] at t3; cases t3
           | some pd=>
             rw[hpd] at t3
             simp only[Option.bind_some] at t3
             intro t v
             simp only[LL,LI]
             split
             ·rename_i hc
              intro hv; cases hv
              rw[← hc.1]; exact t2 _ _ t3
             ·rename_i hc
              intro hv
              obtain ⟨m1,m2⟩:=Xp hv
              have htl:t<regs.length:=by
               rcases Nat.lt_or_ge t regs.length with h | h
               ·exact h
               ·rw[List.getD_eq_getElem?_getD,List.getElem?_eq_none h] at m1; cases m1
              rw[t1.other]
              ·exact hw _ _ m1
              ·intro io' hio' hd
               rcases List.mem_cons.1 hio' with rfl | hio'
               ·exact m2 io' (by simp) hd htl
               ·rcases List.mem_append.1 hio' with hio' | hio'
                ·exact m2 io' (by simp[hio']) hd htl
                ·simp at hio'; subst hio'
                 rw[hpd] at hd; cases hd
                 apply hc
                 refine ⟨rfl, ?_⟩
                 have:∀ (l:List (Nat × Oper)) (r:B4),(O6 r l).length=r.length:=by
                  intro l
                  induction l with
                  | nil=>intro r; rfl
                  | cons a l ih=>intro r; simp only[O6]; rw[ih,EF]
                 rw[this]; exact htl
          have hlen2:(LL (O6 regs (io::body)) p.2.dst (some (.bool rb))).length=E1.length:=by
           have:∀ (l:List (Nat × Oper)) (r:B4),(O6 r l).length=r.length:=by
            intro l
            induction l with
            | nil=>intro r; rfl
            | cons a l ih=>intro r; simp only[O6]; rw[ih,EF]
           rw[EF,this,hE1]; exact hl
          obtain ⟨regs',E',σ',g1,g2,g3,g4⟩:=S8 hcall fuel h2 hw2 hlen2
          refine ⟨regs',E',σ', ?_,g2,g3,g4⟩
          rw[hrest]
          have:=t1.append g1
          simpa using this
         ·cases h
end Go.AX
end
