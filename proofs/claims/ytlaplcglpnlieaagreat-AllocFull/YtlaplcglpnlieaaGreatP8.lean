/-
 maps.Clone, known by what it does.
-/
import Derived.Test.YtlaplcglpnlieaaGreatProg
import Derived.Laws.Externs
import Derived.MapKept
import Derived.Below
import Derived.Test.YtlaplcglpnlieaaGreatP6
set_option linter.unusedVariables false
set_option linter.unusedSimpArgs false
set_option maxRecDepth 100000
set_option linter.unusedSectionVars false
namespace Go.Proofs.YtlaplcglpnlieaaGreat
open Go Go.AX
section
variable {P:Program} (w:World)
theorem gP (d:Nat) (t k e:TypeId) (p:Option Nat) (h:P.underlying t=some (.map k e)):(Op.equalIn (d+1) t (.map p) (.map none)).run P w = .ok p.isNone w:=by
 cases p <;> simp[Op.equalIn,run_underlying h]
theorem TM (t k e:TypeId) (p:Option Nat) (h:P.underlying t=some (.map k e)):(binOp .eql t (.map p) (.map none)).run P w = .ok (.bool p.isNone) w:=by
 simp only[binOp]
 simp[show Op.equal t (.map p) (.map none)=Op.equalIn (9999+1) t (.map p) (.map none) from rfl,gP w 9999 t k e p h]
theorem bU (t xT k e:TypeId) (v:Value) (h:P.underlying t=some (.map k e)):(Instr.typeAssert (.iface t v) xT t false).run P w = .ok v w:=by
 simp[Instr.typeAssert,run_underlying h,go_sem,Result.andThen]
theorem bV {r:Nat} {es:Array MapEntry} {clock:Nat} (t:TypeId) (hb:w.heap[r]?=some (.map es clock)):
  (Extern.MapsClone.clone #[.iface t (.map (some r))]).run P w = .ok (.iface t (.map (some w.heap.size))) (w.alloc (.map es clock)):=by
 have e:Extern.MapsClone.clone #[.iface t (.map (some r))]=(getObj r >>= fun o=>match o with
   | .map entries clock=>(newObj (.map entries clock) >>= fun n=>pure (.iface t (.map (some n))))
   | _=>stuck "maps.clone: a map expected"):=rfl
 rw[e]
 simp[MapKept.run_getObj_map hb,Result.andThen,go_sem]
end
theorem rU:Tryz.prog.underlying 91=some (.map 3 3):=by kernel_rfl
set_option maxHeartbeats 2000000 in
theorem jE (b:Nat) (es:Array MapEntry) (clock:Nat) (w:World) (hb:w.heap[b]?=some (.map es clock)):
  Calls Tryz.prog 59 #[.map (some b)] w fun e w'=>e = .returned (.map (some w.heap.size))∧w'=w.alloc (.map es clock):=by
 have hq:=fun w=>TM (P:=Tryz.prog) w 91 _ _ (some b) rU
 go_enter Tryz.func59,Tryz.ntmps59
 go_wp2
 rw[run_callFunc_extern Tryz.func126 (by kernel_rfl) (by kernel_rfl) (by kernel_rfl) (e:=Extern.MapsClone.clone) (by kernel_rfl),bV w 91 hb]
 simp only[Result.andThen]
 rw[Oper.upon_value]
 go_wp2
 rw[bU _ 91 20 _ _ _ rU]
 simp only[Result.andThen]
 rw[Oper.upon_value]
 go_wp2
 go_ret
 exact ⟨rfl,rfl⟩
set_option maxHeartbeats 2000000 in
theorem jD (w:World):Calls Tryz.prog 59 #[.map none] w fun e w'=>e = .returned (.map none)∧w'=w:=by
 have hq:=fun w=>TM (P:=Tryz.prog) w 91 _ _ none rU
 go_enter Tryz.func59,Tryz.ntmps59
 go_wp2
 go_ret
 exact ⟨rfl,rfl⟩
noncomputable abbrev P:Program:=Tryz.prog
def X:Ext:=fun f=>if f=59 then some fg else none
theorem rY [AF]:kK P X:=by
 intro f g hg f' args σ v σ' h
 unfold X at hg
 split at hg
 rotate_left
 ·cases hg
 rename_i hf
 subst hf
 cases hg
 simp only at h
 split at h
 rotate_left
 ·cases h
 rename_i hf
 subst hf
 have hmore:∃ F,P.funcs[59]?=some F∧F.body.isSome=true∧(F.name == "runtime.NumGoroutine")=false:=⟨_,Tryz.func59,by kernel_rfl,by kernel_rfl⟩
 unfold fg at h
 split at h
 ·cases h
  refine ⟨Nat.le_refl _,fun _=>List.prefix_rfl,hmore,fun μ w cargs hR hfr ha=>?_⟩
  obtain ⟨c⟩:=cargs
  cases ha with
  | cons h1 h2=>
    cases h2
    rw[S9 h1]
    refine (jD w).mono ?_
    rintro e w' ⟨rfl,rfl⟩
    exact ⟨μ,_,rfl,.mapNil,hR,Step.refl _ _ _⟩
 ·rename_i r
  simp only[Option.bind_eq_some_iff] at h
  obtain ⟨es,hes,h⟩:=h
  cases h
  refine ⟨by simp,fun _=>⟨_,rfl⟩,hmore,fun μ w cargs hR hfr ha=>?_⟩
  obtain ⟨c⟩:=cargs
  cases ha with
  | cons h1 h2=>
    cases h2
    obtain ⟨kb,hkb,hfm⟩:=Y8 h1
    obtain ⟨entries,clock,hh,hre⟩:=Yw hR hes hkb
    rw[hfm]
    refine (jE kb.b entries clock w hh).mono ?_
    rintro e w' ⟨rfl,rfl⟩
    refine ⟨μ.put σ.length ⟨w.heap.size,0,0,0,0⟩,_,rfl,RV.map (k:=⟨w.heap.size,0,0,0,0⟩) (Mu.GC _ _ _), ?_,Step.alloc rfl⟩
    have hf0:=hfr _ (Nat.le_refl _) (by simp)
    exact hR.alloc hf0 rfl ⟨entries,clock,rfl,hre⟩
 ·cases h
theorem jC {args:List Value} {σ:Aa} {v:Value} {σ':Aa} (h:fg args σ=some (v,σ')):σ <+: σ':=by
 unfold fg at h
 split at h
 ·cases h; exact List.prefix_rfl
 ·simp only[Option.bind_eq_some_iff] at h
  obtain ⟨es,_,h⟩:=h
  cases h; exact ⟨_,rfl⟩
 ·cases h
theorem kH:WV X:=by
 intro f g hg args σ v σ' h
 unfold X at hg
 split at hg
 ·cases hg; exact jC h
 ·cases hg
end Go.Proofs.YtlaplcglpnlieaaGreat
