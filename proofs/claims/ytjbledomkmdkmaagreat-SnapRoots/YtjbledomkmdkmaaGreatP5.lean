/-
 Regions in the order of the text.
-/
import Derived.Test.YtjbledomkmdkmaaGreatP4
set_option linter.unusedVariables false
set_option linter.unusedSimpArgs false
set_option linter.unusedSectionVars false
namespace Go.AX
open Go
noncomputable section
variable {ρ:Type} {P:Program} [AA]
theorem Kx.qW {Z:Mu} {E regs:Bc} {tmps:Array Value} (h:Kx Z E tmps) (hw:JO E regs) (hl:regs.length<=E.length):Kx Z regs tmps:=
 ⟨zj hl h.1,fun t v ht=>h.2 t v (hw t v ht)⟩
theorem Vh (a:Act) (d:Option Tmp) (v:Value):(a.put d v).tmps.size=a.tmps.size:=by
 cases d <;> simp[Act.put]
theorem Md {a:Act} {d:Option Tmp} {v:Value} {t:Nat} (h:d≠some t):(a.put d v).tmps[t]?=a.tmps[t]?:=by
 cases d with
 | none=>rfl
 | some d=>
   simp only[Act.put,Aan];rw[ym (by rintro rfl; exact h rfl)]
theorem Kx.put {Z:Mu} {regs:Bc} {a:Act} (h:Kx Z regs a.tmps) (d:Option Nat) {v v':Value} (hv:RV Z v v'):Kx Z (Jz regs d (some v)) (a.put d v').tmps:=by
 refine ⟨by rw[Ep,Vh]; exact h.1,fun t u ht=>?_⟩;cases d with
 | none=>exact h.2 t u ht
 | some d=>
   simp only[Jz,IL] at ht;simp only[Act.put,Aan];split at ht
   ·rename_i hc;cases ht;have hlt:d<a.tmps.size:=yG hc.2 h.1;rw[yk hc.1,yk hlt];exact ⟨v',rfl,hv⟩
   ·rename_i hc;obtain ⟨w,hw1,hw2⟩:=h.2 t u ht;by_cases hdt:d=t
    ·subst hdt;have:d<regs.length:=by
      rcases zL d regs.length with h | h
      ·exact h
      ·rw[yd,zg h] at ht; cases ht
     exact absurd ⟨rfl,this⟩ hc
    ·rw[ym hdt]; exact ⟨w,hw1,hw2⟩
theorem Kx.ev {Z:Mu} {regs:Bc} {a:Act} (h:Kx Z regs a.tmps):∀ x u,cf regs x=some u->RV Z u (a.eval x):=by
 intro x u hx;cases x with
 | tmp t=>
   obtain ⟨v',h1,h2⟩:=h.2 t u hx;simp only[Act.eval,Abb,h1,Aaz];exact h2
 | const v=>
   simp only[cf] at hx;split at hx
   ·cases hx; exact .HE ‹_›
   ·cases hx
 | global g=>cases hx
 | func f=>
   cases hx;exact .func (fun l hl=>by cases hl) .nil .nil
theorem j8 {Z:Mu} {all:Array Oper} {o:Oper} {regs:Bc} {tmps:Array Value} (h:yes all.toList o regs) (hr:Kx Z regs tmps):Region.wanted o (yielded all tmps)=true:=by
 unfold yes at h;unfold Region.wanted;split at h
 ·rename_i hg; rw[hg]
 ·rename_i j want hg;rw[hg];unfold MP at h;split at h
  ·rename_i d hd;obtain ⟨v',h1,h2⟩:=hr.2 _ _ h;cases h2;unfold Pc at hd;simp only[Aai] at hd;simp only[yielded,hd,AI,h1];simp
  ·cases h
theorem mI {Z:Mu} {all:Array Oper} {o:Oper} {regs:Bc} {tmps:Array Value} (h:no all.toList o regs) (hr:Kx Z regs tmps):Region.wanted o (yielded all tmps)=false:=by
 obtain ⟨j,want,hg,h⟩:=h;unfold Region.wanted;rw[hg];rcases h with ⟨b,h,hb⟩ | h
 ·unfold MP at h;split at h
  ·rename_i d hd;obtain ⟨v',h1,h2⟩:=hr.2 _ _ h;cases h2;unfold Pc at hd;simp only[Aai] at hd;simp only[yielded,hd,AI,h1];simpa using hb
  ·cases h
 ·unfold MP at h;split at h
  ·rename_i d hd;obtain ⟨v',h1,h2⟩:=hr.2 _ _ h;unfold undef at h2;cases h2;unfold Pc at hd;simp only[Aai] at hd;simp only[yielded,hd,AI,h1];rfl
  ·cases h
theorem vS {ro:Option Nat} {nn:Nat} {qf:Nat->QF} {all:Array Oper} {Q:Exit->Act->World->Prop} {hi:Nat}:∀ {ops:List (Nat × Oper)} {E E':Bc} {J J':Aa},Tr P qf all.toList ops E J E' J'->(∀ io ∈ ops,all[io.1]?=some io.2)->J'.length<=hi ->
  ∀ (a:Act) (Z:Mu) (w:World),R P Z J w->GL Z J.length hi->Kx Z E a.tmps ->
   (∀ (a':Act) (Z':Mu) (w':World),R P Z' J' w'->Step Z J w Z' J' w'->Kx Z' E' a'.tmps->a'.defers=a.defers->a'.tmps.size=a.tmps.size->(∀ t,(∀ io ∈ ops,io.2.dst≠some t)->a'.tmps[t]?=a.tmps[t]?)->Q .normal a' w') ->
   wpOpsIn (FW ro) nn P all Q (ops.map (·.1)) a w:=by
 intro ops E E' J J' h
 induction h with
 | nil=>
   intro _ hi' a Z w hR hfr hreg hQ;exact hQ a Z w hR (Step.refl _ _ _) hreg rfl rfl fun _ _=>rfl
 | @step i o rest E regs E' J J1_ J' v hw hy hf hk ht ih=>
   intro hall hi' a Z w hR hfr hreg hQ;have ho:all[i]?=some o:=hall (i,o) (by simp);have hlen:=ht.len.1;simp only[zD,wpOpsIn,ho];rw[yk (j8 (regs:=E) (by
    unfold yes at hy ⊢;split at hy
    ·trivial
    ·exact U0 hw hy) hreg)];refine hf.wp a Z w hR (hfr.sub (yj _) (by omega)) (fun x u hx=>hreg.ev x u (oY hw (J1 hx).2)) _ _ _ _ ?_;intro Z1_ v1 w1 hv hR1 hS1;have hle:=hS1.le (hfr.sub (yj _) (by omega));refine ih (fun io hio=>hall io (by simp[hio])) hi' (a.put o.dst v1) Z1_ w1 hR1 (hfr.step hS1) ((hreg.mono hle).put _ hv) ?_;intro a' Z' w' hR' hS' hreg' hd hsz hoth;refine hQ a' Z' w' hR' (hS1.trans hS') hreg' (by rw[hd]; cases o.dst <;> rfl) (by rw[hsz,Vh]) ?_;intro t ht';rw[hoth t fun io hio=>ht' io (by simp[hio]),Md (ht' (i,o) (by simp))]
 | @skip i o rest E regs E' J J' hw hn ht ih=>
   intro hall hi' a Z w hR hfr hreg hQ;have ho:all[i]?=some o:=hall (i,o) (by simp);simp only[zD,wpOpsIn,ho];have hn':no all.toList o E:=by
    obtain ⟨j,want,hg,h⟩:=hn;refine ⟨j,want,hg, ?_⟩;rcases h with ⟨b,h,hb⟩ | h
    ·exact .inl ⟨b,U0 hw h,hb⟩
    ·exact .inr (U0 hw h)
   rw[mI hn' hreg];simp only[y8,yq];refine ⟨fun _ _=>trivial, ?_⟩;refine ih (fun io hio=>hall io (by simp[hio])) hi' (a.put o.dst undef) Z w hR hfr (hreg.put _ Pv) ?_;intro a' Z' w' hR' hS' hreg' hd hsz hoth;refine hQ a' Z' w' hR' hS' hreg' (by rw[hd]; cases o.dst <;> rfl) (by rw[hsz,Vh]) ?_;intro t ht';rw[hoth t fun io hio=>ht' io (by simp[hio]),Md (ht' (i,o) (by simp))]
end
end Go.AX
