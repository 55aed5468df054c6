/- maps.Clone, known by what it does.; Laws of the words in which the printed functions are written. -/
import Derived.Test.YtjbledomkmdkmaaGreatProg
import Derived.Laws.Externs
import Derived.MapKept
import Derived.Below
import Derived.Test.YtjbledomkmdkmaaGreatP9
set_option linter.unusedVariables false
set_option linter.unusedSimpArgs false
set_option linter.unusedSectionVars false
namespace Go.Proofs.YtjbledomkmdkmaaGreat
open Go Go.AX
noncomputable section
section
set_option maxRecDepth 100000
section
variable {P:Program} (w:World)
theorem eu (d:Nat) (t k e:TypeId) (p:Option Nat) (h:P.underlying t=some (.map k e)):(Op.equalIn (d+1) t (.map p) (.map none)).run P w = .ok p.isNone w:=by
 cases p <;> simp[Op.equalIn,yx h]
theorem Q3 (t k e:TypeId) (p:Option Nat) (h:P.underlying t=some (.map k e)):(binOp .eql t (.map p) (.map none)).run P w = .ok (.bool p.isNone) w:=by
 simp only[binOp];simp[show Op.equal t (.map p) (.map none)=Op.equalIn (9999+1) t (.map p) (.map none) from rfl,eu w 9999 t k e p h]
theorem Zy (t xT k e:TypeId) (v:Value) (h:P.underlying t=some (.map k e)):(Instr.typeAssert (.iface t v) xT t false).run P w = .ok v w:=by
 simp[Instr.typeAssert,yx h,go_sem,Result.andThen]
theorem Zz {r:Nat} {es:Array MapEntry} {clock:Nat} (t:TypeId) (hb:w.heap[r]?=some (.map es clock)):
  (Extern.MapsClone.clone #[.iface t (.map (some r))]).run P w = .ok (.iface t (.map (some w.heap.size))) (w.alloc (.map es clock)):=by
 have e:Extern.MapsClone.clone #[.iface t (.map (some r))]=(getObj r >>= fun o=>match o with
   | .map entries clock=>(newObj (.map entries clock) >>= fun n=>pure (.iface t (.map (some n))))
   | _=>stuck "maps.clone: a map expected"):=rfl;rw[e];simp[MapKept.run_getObj_map hb,Result.andThen,go_sem]
end
theorem uO:Tryz.prog.underlying 137=some (.map 3 3):=by kernel_rfl
set_option maxHeartbeats 2000000 in
theorem ij (b:Nat) (es:Array MapEntry) (clock:Nat) (w:World) (hb:w.heap[b]?=some (.map es clock)):
  Calls Tryz.prog 262 #[.map (some b)] w fun e w'=>e = .returned (.map (some w.heap.size))/\w'=w.alloc (.map es clock):=by
 have hq:=fun w=>Q3 (P:=Tryz.prog) w 137 _ _ (some b) uO
 go_enter Tryz.func262,Tryz.ntmps262
 go_wp2
 rw[run_callFunc_extern Tryz.func295 (by kernel_rfl) (by kernel_rfl) (by kernel_rfl) (e:=Extern.MapsClone.clone) (by kernel_rfl),Zz w 137 hb];simp only[Result.andThen];rw[Ab8]
 go_wp2
 rw[Zy _ 137 20 _ _ _ uO];simp only[Result.andThen];rw[Ab8]
 go_wp2
 go_ret
 exact ⟨rfl,rfl⟩
set_option maxHeartbeats 2000000 in
theorem ig (w:World):Calls Tryz.prog 262 #[.map none] w fun e w'=>e = .returned (.map none)/\w'=w:=by
 have hq:=fun w=>Q3 (P:=Tryz.prog) w 137 _ _ none uO
 go_enter Tryz.func262,Tryz.ntmps262
 go_wp2
 go_ret
 exact ⟨rfl,rfl⟩
abbrev P:Program:=Tryz.prog
def X:Ext:=fun f=>if f=262 then some bY else none
theorem xe [AA]:th P X:=by
 intro f g hg;unfold X at hg;split at hg;rotate_left
 ·cases hg
 rename_i hf;subst hf;cases hg;refine ⟨fun f' args J v J' hne h=>?_,fun args J v J' h=>?_⟩;rotate_left
 ·rw[ym (by decide)] at h;cases h
 split at h;rotate_left
 ·cases h
 rename_i hf;subst hf;have hmore:∃ F,P.funcs[262]?=some F/\F.body.isSome=true/\(F.name == "runtime.NumGoroutine")=false:=⟨_,Tryz.func262,by kernel_rfl,by kernel_rfl⟩;unfold bY at h;split at h
 ·cases h;refine ⟨yj _,fun _=>Aao,hmore,fun Z w cargs hR hfr ha=>?_⟩;obtain ⟨c⟩:=cargs;cases ha with
  | cons h1 h2=>
    cases h2;rw[Pu h1];refine (ig w).mono ?_;rintro e w' ⟨rfl,rfl⟩;exact ⟨Z,_,rfl,.mapNil,hR,Step.refl _ _ _⟩
 ·rename_i r;simp only[IS] at h;obtain ⟨es,hes,h⟩:=h;cases h;refine ⟨by simp,fun _=>⟨_,rfl⟩,hmore,fun Z w cargs hR hfr ha=>?_⟩;obtain ⟨c⟩:=cargs;cases ha with
  | cons h1 h2=>
    cases h2;obtain ⟨kb,hkb,hfm⟩:=Wp h1;obtain ⟨entries,clock,hh,hre⟩:=We hR hes hkb;rw[hfm];refine (ij kb.b entries clock w hh).mono ?_;rintro e w' ⟨rfl,rfl⟩;refine ⟨Z.put J.length ⟨w.heap.size,0,0,0,0⟩,_,rfl,RV.map (k:=⟨w.heap.size,0,0,0,0⟩) (Mu.Fl _ _ _), ?_,Step.alloc rfl⟩;have hf0:=hfr _ (yj _) (by simp);exact hR.alloc hf0 rfl ⟨entries,clock,rfl,hre⟩
 ·cases h
theorem ie {args:List Value} {J:Aa} {v:Value} {J':Aa} (h:bY args J=some (v,J')):J <+: J':=by
 unfold bY at h;split at h
 ·cases h; exact Aao
 ·simp only[IS] at h;obtain ⟨es,_,h⟩:=h;cases h; exact ⟨_,rfl⟩
 ·cases h
theorem uR:bO X:=by
 intro f g hg args J v J' h;unfold X at hg;split at hg
 ·cases hg; exact ie h
 ·cases hg
end
end
end Go.Proofs.YtjbledomkmdkmaaGreat
namespace Go.AX
open Go
noncomputable section
section
variable {ρ:Type}
theorem ki (J:Aa) (vs:List Value) (T:TypeId) (rw:Bool) (o:Nat):D5 (J++[.cells vs T rw]) J.length o=vs[o]?:=by simp[D5]
theorem sv {J:Aa} {b:Nat} (τ:Aa) (o:Nat) (h:b<J.length):D5 (J++τ) b o=D5 J b o:=by simp[D5,AT h]
theorem Bh (k:IntKind) (J:Aa) (vs:List Value) (T:TypeId) (rw:Bool) (o:Nat):Ak k (J++[.cells vs T rw]) J.length o=(vs[o]?).bind (Bn k):=by simp[Ak,ki]
theorem Jm (k:IntKind) {J:Aa} {b:Nat} (τ:Aa) (o:Nat) (h:b<J.length):Ak k (J++τ) b o=Ak k J b o:=by simp[Ak,sv τ o h]
theorem FU (k:IntKind) (J τ:Aa) (vs:List Value) (T:TypeId) (rw:Bool) (o:Nat):Ak k ((J++[.cells vs T rw])++τ) J.length o=(vs[o]?).bind (Bn k):=by
 rw[Jm k τ o (by simp),Bh]
theorem Ag (k:IntKind) (n:Int):Bn k (.int k n)=some n:=by simp[Bn]
theorem Ao (b:Bool):DK (.bool b)=some b:=rfl
theorem fK {α β:Type} (c:Bool) (x y:α) (s:β):(bif c then some (x,s) else some (y,s))=some (bif c then x else y,s):=by cases c <;> rfl
theorem cG (J τ:Aa) (m:Option ρ):@G9 Ap ρ J (J++τ) m=m:=by
 have h:@AA.q Ap J (J++τ)=true:=by
  unfold Ap;simp only[zA];exact ⟨τ,rfl⟩
 unfold G9; rw[h]; rfl
def Xi (m:Option (Value × Aa)) (J:Aa) (v:Value):Prop:=∃ τ,m=some (v,J++τ)
def Xi.mem {m:Option (Value × Aa)} {J:Aa} {v:Value} (h:Xi m J v):Aa:=Classical.choose h
theorem Xi.eq {m:Option (Value × Aa)} {J:Aa} {v:Value} (h:Xi m J v):m=some (v,J++h.mem):=Classical.choose_spec h
def AK (n:Int):Prop:=-9223372036854775808<=n/\n<9223372036854775808
theorem Ah {n:Int} (h:AK n):Ar n=n:=IntWalk.i64_in n (by unfold AK at h; omega)
end
end
end Go.AX
