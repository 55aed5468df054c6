/-
 Regions in the order of the text.
-/
import Derived.Test.YtlaplcglpnlieaaGreatP3
set_option linter.unusedSimpArgs false
set_option linter.unusedVariables false
set_option linter.unusedSectionVars false
namespace Go.AX
open Go
variable {ρ:Type} {P:Program} [AF]
def NT (μ:Mu) (regs:B4) (tmps:Array Value):Prop:=
 regs.length≤tmps.size ∧ ∀ (t:Nat) (v:Value),regs.getD t none=some v → ∃ v',tmps[t]?=some v'∧RV μ v v'
theorem NT.mono {μ μ':Mu} {regs:B4} {tmps:Array Value} (h:NT μ regs tmps) (hm:μ.le μ'):NT μ' regs tmps:=
 ⟨h.1,fun t v ht=>let ⟨v',h1,h2⟩:=h.2 t v ht; ⟨v',h1,h2.mono hm⟩⟩
theorem NT.qF {μ:Mu} {E regs:B4} {tmps:Array Value} (h:NT μ E tmps) (hw:Lh E regs) (hl:regs.length≤E.length):NT μ regs tmps:=
 ⟨Nat.le_trans hl h.1,fun t v ht=>h.2 t v (hw t v ht)⟩
theorem X5 (a:Act) (d:Option Tmp) (v:Value):(a.put d v).tmps.size=a.tmps.size:=by
 cases d <;> simp[Act.put]
theorem O7 {a:Act} {d:Option Tmp} {v:Value} {t:Nat} (h:d≠some t):(a.put d v).tmps[t]?=a.tmps[t]?:=by
 cases d with
 | none=>rfl
 | some d=>
   simp only[Act.put,Array.getElem?_setIfInBounds]
   rw[if_neg (by rintro rfl; exact h rfl)]
theorem NT.put {μ:Mu} {regs:B4} {a:Act} (h:NT μ regs a.tmps) (d:Option Nat) {v v':Value} (hv:RV μ v v'):NT μ (LL regs d (some v)) (a.put d v').tmps:=by
 refine ⟨by rw[EF,X5]; exact h.1,fun t u ht=>?_⟩
 cases d with
 | none=>exact h.2 t u ht
 | some d=>
   simp only[LL,LI] at ht
   simp only[Act.put,Array.getElem?_setIfInBounds]
   split at ht
   ·rename_i hc
    cases ht
    have hlt:d<a.tmps.size:=Nat.lt_of_lt_of_le hc.2 h.1
    rw[if_pos hc.1,if_pos hlt]
    exact ⟨v',rfl,hv⟩
   ·rename_i hc
    obtain ⟨w,hw1,hw2⟩:=h.2 t u ht
    by_cases hdt:d=t
    ·subst hdt
     have:d<regs.length:=by
      rcases Nat.lt_or_ge d regs.length with h | h
      ·exact h
      ·rw[List.getD_eq_getElem?_getD,List.getElem?_eq_none h] at ht; cases ht
     exact absurd ⟨rfl,this⟩ hc
    ·rw[if_neg hdt]; exact ⟨w,hw1,hw2⟩
theorem NT.ev {μ:Mu} {regs:B4} {a:Act} (h:NT μ regs a.tmps):∀ x u,gn regs x=some u→RV μ u (a.eval x):=by
 intro x u hx
 cases x with
 | tmp t=>
   obtain ⟨v',h1,h2⟩:=h.2 t u hx
   simp only[Act.eval,Array.getD_eq_getD_getElem?,h1,Option.getD_some]
   exact h2
 | const v=>
   simp only[gn] at hx
   split at hx
   ·cases hx; exact .Iu ‹_›
   ·cases hx
 | global g=>cases hx
 | func f=>
   cases hx
   exact .func .nil .nil
theorem kI {μ:Mu} {all:Array Oper} {o:Oper} {regs:B4} {tmps:Array Value} (h:yes all.toList o regs) (hr:NT μ regs tmps):Region.wanted o (yielded all tmps)=true:=by
 unfold yes at h
 unfold Region.wanted
 split at h
 ·rename_i hg; rw[hg]
 ·rename_i j want hg
  rw[hg]
  unfold P9 at h
  split at h
  ·rename_i d hd
   obtain ⟨v',h1,h2⟩:=hr.2 _ _ h
   cases h2
   unfold Sn at hd
   simp only[Array.getElem?_toList] at hd
   simp only[yielded,hd,Option.bind_some,h1]
   simp
  ·cases h
theorem mE {μ:Mu} {all:Array Oper} {o:Oper} {regs:B4} {tmps:Array Value} (h:no all.toList o regs) (hr:NT μ regs tmps):Region.wanted o (yielded all tmps)=false:=by
 obtain ⟨j,want,hg,h⟩:=h
 unfold Region.wanted
 rw[hg]
 rcases h with ⟨b,h,hb⟩ | h
 ·unfold P9 at h
  split at h
  ·rename_i d hd
   obtain ⟨v',h1,h2⟩:=hr.2 _ _ h
   cases h2
   unfold Sn at hd
   simp only[Array.getElem?_toList] at hd
   simp only[yielded,hd,Option.bind_some,h1]
   simpa using hb
  ·cases h
 ·unfold P9 at h
  split at h
  ·rename_i d hd
   obtain ⟨v',h1,h2⟩:=hr.2 _ _ h
   unfold undef at h2
   cases h2
   unfold Sn at hd
   simp only[Array.getElem?_toList] at hd
   simp only[yielded,hd,Option.bind_some,h1]
   rfl
  ·cases h
theorem sQ {qf:Nat→QF} {all:Array Oper} {Q:Exit→Act→World→Prop} {hi:Nat}:∀ {ops:List (Nat × Oper)} {E E':B4} {σ σ':Aa},Tr P qf all.toList ops E σ E' σ'→(∀ io ∈ ops,all[io.1]?=some io.2)→σ'.length≤hi →
  ∀ (a:Act) (μ:Mu) (w:World),R P μ σ w→Ii μ σ.length hi→NT μ E a.tmps →
   (∀ (a':Act) (μ':Mu) (w':World),R P μ' σ' w'→Step μ σ w μ' σ' w'→NT μ' E' a'.tmps→a'.defers=a.defers→a'.tmps.size=a.tmps.size→(∀ t,(∀ io ∈ ops,io.2.dst≠some t)→a'.tmps[t]?=a.tmps[t]?)→Q .normal a' w') →
   wpOps P all Q (ops.map (·.1)) a w:=by
 intro ops E E' σ σ' h
 induction h with
 | nil=>
   intro _ hi' a μ w hR hfr hreg hQ
   exact hQ a μ w hR (Step.refl _ _ _) hreg rfl rfl fun _ _=>rfl
 | @step i o rest E regs E' σ σ1 σ' v hw hy hf hk ht ih=>
   intro hall hi' a μ w hR hfr hreg hQ
   have ho:all[i]?=some o:=hall (i,o) (by simp)
   have hlen:=ht.len.1
   simp only[List.map_cons,wpOps,ho]
   rw[if_pos (kI (regs:=E) (by
    unfold yes at hy ⊢
    split at hy
    ·trivial
    ·exact WH hw hy) hreg)]
   refine .inl (hf.wp a μ w hR (hfr.sub (Nat.le_refl _) (by omega)) (fun x u hx=>hreg.ev x u (nT hw (Tt hx).2)) _ _ ?_)
   intro μ1 v1 w1 hv hR1 hS1
   have hle:=hS1.le (hfr.sub (Nat.le_refl _) (by omega))
   refine ih (fun io hio=>hall io (by simp[hio])) hi' (a.put o.dst v1) μ1 w1 hR1 (hfr.step hS1) ((hreg.mono hle).put _ hv) ?_
   intro a' μ' w' hR' hS' hreg' hd hsz hoth
   refine hQ a' μ' w' hR' (hS1.trans hS') hreg' (by rw[hd]; cases o.dst <;> rfl) (by rw[hsz,X5]) ?_
   intro t ht'
   rw[hoth t fun io hio=>ht' io (by simp[hio]),O7 (ht' (i,o) (by simp))]
 | @skip i o rest E regs E' σ σ' hw hn ht ih=>
   intro hall hi' a μ w hR hfr hreg hQ
   have ho:all[i]?=some o:=hall (i,o) (by simp)
   simp only[List.map_cons,wpOps,ho]
   have hn':no all.toList o E:=by
    obtain ⟨j,want,hg,h⟩:=hn
    refine ⟨j,want,hg, ?_⟩
    rcases h with ⟨b,h,hb⟩ | h
    ·exact .inl ⟨b,WH hw h,hb⟩
    ·exact .inr (WH hw h)
   rw[mE hn' hreg]
   simp only[Bool.false_eq_true,if_false]
   refine ih (fun io hio=>hall io (by simp[hio])) hi' (a.put o.dst undef) μ w hR hfr (hreg.put _ SA) ?_
   intro a' μ' w' hR' hS' hreg' hd hsz hoth
   refine hQ a' μ' w' hR' hS' hreg' (by rw[hd]; cases o.dst <;> rfl) (by rw[hsz,X5]) ?_
   intro t ht'
   rw[hoth t fun io hio=>ht' io (by simp[hio]),O7 (ht' (i,o) (by simp))]
end Go.AX
