/-
 maps.Clone, known by what it does.
-/
import Derived.Test.YtjbledomkmdkmaaGreatProg
import Derived.Laws.Externs
import Derived.MapKept
import Derived.Below
import Derived.Test.YtjbledomkmdkmaaGreatP8
set_option linter.unusedVariables false
set_option linter.unusedSimpArgs false
set_option maxRecDepth 100000
set_option linter.unusedSectionVars false
namespace Go.Proofs.YtjbledomkmdkmaaGreat
open Go Go.AX
section
variable {P:Program} (w:World)
theorem vl (d:Nat) (t k e:TypeId) (p:Option Nat) (h:P.underlying t=some (.map k e)):(Op.equalIn (d+1) t (.map p) (.map none)).run P w = .ok p.isNone w:=by
 cases p <;> simp[Op.equalIn,run_underlying h]
theorem av (t k e:TypeId) (p:Option Nat) (h:P.underlying t=some (.map k e)):(binOp .eql t (.map p) (.map none)).run P w = .ok (.bool p.isNone) w:=by
 simp only[binOp]
 simp[show Op.equal t (.map p) (.map none)=Op.equalIn (9999+1) t (.map p) (.map none) from rfl,vl w 9999 t k e p h]
theorem pE (t xT k e:TypeId) (v:Value) (h:P.underlying t=some (.map k e)):(Instr.typeAssert (.iface t v) xT t false).run P w = .ok v w:=by
 simp[Instr.typeAssert,run_underlying h,go_sem,Result.andThen]
theorem pF {r:Nat} {es:Array MapEntry} {clock:Nat} (t:TypeId) (hb:w.heap[r]?=some (.map es clock)):
  (Extern.MapsClone.clone #[.iface t (.map (some r))]).run P w = .ok (.iface t (.map (some w.heap.size))) (w.alloc (.map es clock)):=by
 have e:Extern.MapsClone.clone #[.iface t (.map (some r))]=(getObj r >>= fun o=>match o with
   | .map entries clock=>(newObj (.map entries clock) >>= fun n=>pure (.iface t (.map (some n))))
   | _=>stuck "maps.clone: a map expected"):=rfl
 rw[e]
 simp[MapKept.run_getObj_map hb,Result.andThen,go_sem]
end
theorem Ajp:Tryz.prog.underlying 137=some (.map 3 3):=by kernel_rfl
set_option maxHeartbeats 2000000 in
theorem xr (b:Nat) (es:Array MapEntry) (clock:Nat) (w:World) (hb:w.heap[b]?=some (.map es clock)):
  Calls Tryz.prog 262 #[.map (some b)] w fun e w'=>e = .returned (.map (some w.heap.size))∧w'=w.alloc (.map es clock):=by
 have hq:=fun w=>av (P:=Tryz.prog) w 137 _ _ (some b) Ajp
 go_enter Tryz.func262,Tryz.ntmps262
 go_wp2
 rw[run_callFunc_extern Tryz.func295 (by kernel_rfl) (by kernel_rfl) (by kernel_rfl) (e:=Extern.MapsClone.clone) (by kernel_rfl),pF w 137 hb]
 simp only[Result.andThen]
 rw[Oper.upon_value]
 go_wp2
 rw[pE _ 137 20 _ _ _ Ajp]
 simp only[Result.andThen]
 rw[Oper.upon_value]
 go_wp2
 go_ret
 exact ⟨rfl,rfl⟩
set_option maxHeartbeats 2000000 in
theorem xq (w:World):Calls Tryz.prog 262 #[.map none] w fun e w'=>e = .returned (.map none)∧w'=w:=by
 have hq:=fun w=>av (P:=Tryz.prog) w 137 _ _ none Ajp
 go_enter Tryz.func262,Tryz.ntmps262
 go_wp2
 go_ret
 exact ⟨rfl,rfl⟩
noncomputable abbrev P:Program:=Tryz.prog
def X:Ext:=fun f=>if f=262 then some tx else none
theorem Ajs [A9]:yz P X:=by
 intro f g hg
 unfold X at hg
 split at hg
 rotate_left
 ·cases hg
 rename_i hf
 subst hf
 cases hg
 refine ⟨fun f' args σ v σ' hne h=>?_,fun args σ v σ' h=>?_⟩
 rotate_left
 ·rw[if_neg (by decide)] at h
  cases h
 split at h
 rotate_left
 ·cases h
 rename_i hf
 subst hf
 have hmore:∃ F,P.funcs[262]?=some F∧F.body.isSome=true∧(F.name == "runtime.NumGoroutine")=false:=⟨_,Tryz.func262,by kernel_rfl,by kernel_rfl⟩
 unfold tx at h
 split at h
 ·cases h
  refine ⟨Nat.le_refl _,fun _=>List.prefix_rfl,hmore,fun μ w cargs hR hfr ha=>?_⟩
  obtain ⟨c⟩:=cargs
  cases ha with
  | cons h1 h2=>
    cases h2
    rw[Y7 h1]
    refine (xq w).mono ?_
    rintro e w' ⟨rfl,rfl⟩
    exact ⟨μ,_,rfl,.mapNil,hR,Step.refl _ _ _⟩
 ·rename_i r
  simp only[Option.bind_eq_some_iff] at h
  obtain ⟨es,hes,h⟩:=h
  cases h
  refine ⟨by simp,fun _=>⟨_,rfl⟩,hmore,fun μ w cargs hR hfr ha=>?_⟩
  obtain ⟨c⟩:=cargs
  cases ha with
  | cons h1 h2=>
    cases h2
    obtain ⟨kb,hkb,hfm⟩:=kJ h1
    obtain ⟨entries,clock,hh,hre⟩:=k9 hR hes hkb
    rw[hfm]
    refine (xr kb.b entries clock w hh).mono ?_
    rintro e w' ⟨rfl,rfl⟩
    refine ⟨μ.put σ.length ⟨w.heap.size,0,0,0,0⟩,_,rfl,RV.map (k:=⟨w.heap.size,0,0,0,0⟩) (Mu.FN _ _ _), ?_,Step.alloc rfl⟩
    have hf0:=hfr _ (Nat.le_refl _) (by simp)
    exact hR.alloc hf0 rfl ⟨entries,clock,rfl,hre⟩
 ·cases h
theorem xp {args:List Value} {σ:Aa} {v:Value} {σ':Aa} (h:tx args σ=some (v,σ')):σ <+: σ':=by
 unfold tx at h
 split at h
 ·cases h; exact List.prefix_rfl
 ·simp only[Option.bind_eq_some_iff] at h
  obtain ⟨es,_,h⟩:=h
  cases h; exact ⟨_,rfl⟩
 ·cases h
theorem yx:ia X:=by
 intro f g hg args σ v σ' h
 unfold X at hg
 split at hg
 ·cases hg; exact xp h
 ·cases hg
end Go.Proofs.YtjbledomkmdkmaaGreat
