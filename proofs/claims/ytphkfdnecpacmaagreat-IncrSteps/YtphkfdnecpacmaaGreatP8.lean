/-
 maps.Clone, known by what it does.
-/
import Derived.Test.YtphkfdnecpacmaaGreatProg
import Derived.Laws.Externs
import Derived.MapKept
import Derived.Below
import Derived.Test.YtphkfdnecpacmaaGreatP7
set_option linter.unusedVariables false
set_option linter.unusedSimpArgs false
set_option maxRecDepth 100000
set_option linter.unusedSectionVars false
namespace Go.Proofs.YtphkfdnecpacmaaGreat
open Go Go.AX
section
variable {P:Program} (w:World)
theorem uX (d:Nat) (t k e:TypeId) (p:Option Nat) (h:P.underlying t=some (.map k e)):(Op.equalIn (d+1) t (.map p) (.map none)).run P w = .ok p.isNone w:=by
 cases p <;> simp[Op.equalIn,run_underlying h]
theorem ZY (t k e:TypeId) (p:Option Nat) (h:P.underlying t=some (.map k e)):(binOp .eql t (.map p) (.map none)).run P w = .ok (.bool p.isNone) w:=by
 simp only[binOp]
 simp[show Op.equal t (.map p) (.map none)=Op.equalIn (9999+1) t (.map p) (.map none) from rfl,uX w 9999 t k e p h]
theorem pk (t xT k e:TypeId) (v:Value) (h:P.underlying t=some (.map k e)):(Instr.typeAssert (.iface t v) xT t false).run P w = .ok v w:=by
 simp[Instr.typeAssert,run_underlying h,go_sem,Result.andThen]
theorem po {r:Nat} {es:Array MapEntry} {clock:Nat} (t:TypeId) (hb:w.heap[r]?=some (.map es clock)):
  (Extern.MapsClone.clone #[.iface t (.map (some r))]).run P w = .ok (.iface t (.map (some w.heap.size))) (w.alloc (.map es clock)):=by
 have e:Extern.MapsClone.clone #[.iface t (.map (some r))]=(getObj r >>= fun o=>match o with
   | .map entries clock=>(newObj (.map entries clock) >>= fun n=>pure (.iface t (.map (some n))))
   | _=>stuck "maps.clone: a map expected"):=rfl
 rw[e]
 simp[MapKept.run_getObj_map hb,Result.andThen,go_sem]
end
theorem Ai4:Tryz.prog.underlying 134=some (.map 3 3):=by kernel_rfl
set_option maxHeartbeats 2000000 in
theorem xa (b:Nat) (es:Array MapEntry) (clock:Nat) (w:World) (hb:w.heap[b]?=some (.map es clock)):
  Calls Tryz.prog 253 #[.map (some b)] w fun e w'=>e = .returned (.map (some w.heap.size))∧w'=w.alloc (.map es clock):=by
 have hq:=fun w=>ZY (P:=Tryz.prog) w 134 _ _ (some b) Ai4
 go_enter Tryz.func253,Tryz.ntmps253
 go_wp2
 rw[run_callFunc_extern Tryz.func289 (by kernel_rfl) (by kernel_rfl) (by kernel_rfl) (e:=Extern.MapsClone.clone) (by kernel_rfl),po w 134 hb]
 simp only[Result.andThen]
 rw[Oper.upon_value]
 go_wp2
 rw[pk _ 134 20 _ _ _ Ai4]
 simp only[Result.andThen]
 rw[Oper.upon_value]
 go_wp2
 go_ret
 exact ⟨rfl,rfl⟩
set_option maxHeartbeats 2000000 in
theorem wZ (w:World):Calls Tryz.prog 253 #[.map none] w fun e w'=>e = .returned (.map none)∧w'=w:=by
 have hq:=fun w=>ZY (P:=Tryz.prog) w 134 _ _ none Ai4
 go_enter Tryz.func253,Tryz.ntmps253
 go_wp2
 go_ret
 exact ⟨rfl,rfl⟩
noncomputable abbrev P:Program:=Tryz.prog
def X:Ext:=fun f=>if f=253 then some ti else none
theorem Ai7 [AA]:yh P X:=by
 intro f g hg
 unfold X at hg
 split at hg
 rotate_left
 ·cases hg
 rename_i hf
 subst hf
 cases hg
 refine ⟨fun f' args σ v σ' hne h=>?_,fun args σ v σ' h=>?_⟩
 rotate_left
 ·rw[if_neg (by decide)] at h
  cases h
 split at h
 rotate_left
 ·cases h
 rename_i hf
 subst hf
 have hmore:∃ F,P.funcs[253]?=some F∧F.body.isSome=true∧(F.name == "runtime.NumGoroutine")=false:=⟨_,Tryz.func253,by kernel_rfl,by kernel_rfl⟩
 unfold ti at h
 split at h
 ·cases h
  refine ⟨Nat.le_refl _,fun _=>List.prefix_rfl,hmore,fun μ w cargs hR hfr ha=>?_⟩
  obtain ⟨c⟩:=cargs
  cases ha with
  | cons h1 h2=>
    cases h2
    rw[Y1 h1]
    refine (wZ w).mono ?_
    rintro e w' ⟨rfl,rfl⟩
    exact ⟨μ,_,rfl,.mapNil,hR,Step.refl _ _ _⟩
 ·rename_i r
  simp only[Option.bind_eq_some_iff] at h
  obtain ⟨es,hes,h⟩:=h
  cases h
  refine ⟨by simp,fun _=>⟨_,rfl⟩,hmore,fun μ w cargs hR hfr ha=>?_⟩
  obtain ⟨c⟩:=cargs
  cases ha with
  | cons h1 h2=>
    cases h2
    obtain ⟨kb,hkb,hfm⟩:=kz h1
    obtain ⟨entries,clock,hh,hre⟩:=kh hR hes hkb
    rw[hfm]
    refine (xa kb.b entries clock w hh).mono ?_
    rintro e w' ⟨rfl,rfl⟩
    refine ⟨μ.put σ.length ⟨w.heap.size,0,0,0,0⟩,_,rfl,RV.map (k:=⟨w.heap.size,0,0,0,0⟩) (Mu.FM _ _ _), ?_,Step.alloc rfl⟩
    have hf0:=hfr _ (Nat.le_refl _) (by simp)
    exact hR.alloc hf0 rfl ⟨entries,clock,rfl,hre⟩
 ·cases h
theorem wY {args:List Value} {σ:Aa} {v:Value} {σ':Aa} (h:ti args σ=some (v,σ')):σ <+: σ':=by
 unfold ti at h
 split at h
 ·cases h; exact List.prefix_rfl
 ·simp only[Option.bind_eq_some_iff] at h
  obtain ⟨es,_,h⟩:=h
  cases h; exact ⟨_,rfl⟩
 ·cases h
theorem yf:gT X:=by
 intro f g hg args σ v σ' h
 unfold X at hg
 split at hg
 ·cases hg; exact wY h
 ·cases hg
end Go.Proofs.YtphkfdnecpacmaaGreat
