/- Part 5. -/
import Derived.Test.YtjbledomkmdkmaaGreatProg
import Derived.Laws.Externs
import Derived.MapKept
import Derived.Below
import Derived.Test.YtjbledomkmdkmaaGreatP4
set_option linter.unusedVariables false
set_option linter.unusedSimpArgs false
set_option linter.unusedSectionVars false
namespace Go.Proofs.YtjbledomkmdkmaaGreat
open Go Go.AX
noncomputable section
section
set_option maxRecDepth 100000
section
variable {P:Program} (w:World)
theorem kz (d:Nat) (t k e:TypeId) (p:Option Nat) (h:P.underlying t=some (.map k e)):(Op.equalIn (d+1) t (.map p) (.map none)).run P w = .ok p.isNone w:=by
 cases p <;> simp[Op.equalIn,Ab9 h]
theorem Sy (t k e:TypeId) (p:Option Nat) (h:P.underlying t=some (.map k e)):(binOp .eql t (.map p) (.map none)).run P w = .ok (.bool p.isNone) w:=by
 simp only[binOp];simp[show Op.equal t (.map p) (.map none)=Op.equalIn (9999+1) t (.map p) (.map none) from rfl,kz w 9999 t k e p h]
theorem dv (t a k e:TypeId) (v:Value) (h:P.underlying t=some (.map k e)):(Instr.typeAssert (.iface t v) a t false).run P w = .ok v w:=by
 simp[Instr.typeAssert,Ab9 h,go_sem,Result.andThen]
theorem dw {r:Nat} {es:Array MapEntry} {clock:Nat} (t:TypeId) (hb:w.heap[r]?=some (.map es clock)):
  (Extern.MapsClone.clone #[.iface t (.map (some r))]).run P w = .ok (.iface t (.map (some w.heap.size))) (w.alloc (.map es clock)):=by
 have e:Extern.MapsClone.clone #[.iface t (.map (some r))]=(getObj r >>= fun o=>match o with
   | .map entries clock=>(newObj (.map entries clock) >>= fun n=>pure (.iface t (.map (some n))))
   | _=>stuck "maps.clone: a map expected"):=rfl;rw[e];simp[MapKept.run_getObj_map hb,Result.andThen,go_sem]
end
theorem Aal:Tryz.prog.underlying 137=some (.map 3 3):=by kernel_rfl
set_option maxHeartbeats 2000000 in
theorem nE (b:Nat) (es:Array MapEntry) (clock:Nat) (w:World) (hb:w.heap[b]?=some (.map es clock)):
  Calls Tryz.prog 262 #[.map (some b)] w fun e w'=>e = .returned (.map (some w.heap.size))/\w'=w.alloc (.map es clock):=by
 have a:=fun w=>Sy (P:=Tryz.prog) w 137 _ _ (some b) Aal
 go_enter Tryz.func262,Tryz.ntmps262
 go_wp2
 rw[run_callFunc_extern Tryz.func295 (by kernel_rfl) (by kernel_rfl) (by kernel_rfl) (e:=Extern.MapsClone.clone) (by kernel_rfl),dw w 137 hb];simp only[Result.andThen];rw[Agz]
 go_wp2
 rw[dv _ 137 20 _ _ _ Aal];simp only[Result.andThen];rw[Agz]
 go_wp2
 go_ret
 exact ⟨rfl,rfl⟩
set_option maxHeartbeats 2000000 in
theorem nD (w:World):Calls Tryz.prog 262 #[.map none] w fun e w'=>e = .returned (.map none)/\w'=w:=by
 have a:=fun w=>Sy (P:=Tryz.prog) w 137 _ _ none Aal
 go_enter Tryz.func262,Tryz.ntmps262
 go_wp2
 go_ret
 exact ⟨rfl,rfl⟩
abbrev P:Program:=Tryz.prog
def X:Ext:=fun f=>if f=262 then some iC else none
theorem Adg [AJ]:yv P X:=by
 intro f g j;unfold X at j;split at j;rotate_left
 ·cases j
 rename_i o;subst o;cases j;refine ⟨fun y args J v J' x h=>?_,fun args J v J' h=>?_⟩;rotate_left
 ·rw[Aaz (by decide)] at h;cases h
 split at h;rotate_left
 ·cases h
 rename_i o;subst o;have b:∃ F,P.funcs[262]?=some F/\F.body.isSome=true/\(F.name == "runtime.NumGoroutine")=false:=⟨_,Tryz.func262,by kernel_rfl,by kernel_rfl⟩;unfold iC at h;split at h
 ·cases h;refine ⟨Aa1 _,fun _=>Afg,b,fun Z w a i d m=>?_⟩;obtain ⟨c⟩:=a;cases m with
  | cons h1 l=>
    cases l;rw[Rh h1];refine (nD w).mono ?_;rintro e w' ⟨rfl,rfl⟩;exact ⟨Z,_,rfl,.mapNil,i,Step.refl _ _ _⟩
 ·rename_i r;simp only[Aai] at h;obtain ⟨es,n,h⟩:=h;cases h;refine ⟨by simp,fun _=>⟨_,rfl⟩,b,fun Z w a i d m=>?_⟩;obtain ⟨c⟩:=a;cases m with
  | cons h1 l=>
    cases l;obtain ⟨kb,s,q⟩:=YK h1;obtain ⟨entries,clock,u,t⟩:=Y7 i n s;rw[q];refine (nE kb.b entries clock w u).mono ?_;rintro e w' ⟨rfl,rfl⟩;refine ⟨Z.put J.length ⟨w.heap.size,0,0,0,0⟩,_,rfl,RV.map (k:=⟨w.heap.size,0,0,0,0⟩) (Mu.FP _ _ _), ?_,Step.alloc rfl⟩;have p:=d _ (Aa1 _) (by simp);exact i.alloc p rfl ⟨entries,clock,rfl,t⟩
 ·cases h
theorem nC {args:List Value} {J:Aa} {v:Value} {J':Aa} (h:iC args J=some (v,J')):J <+: J':=by
 unfold iC at h;split at h
 ·cases h; exact Afg
 ·simp only[Aai] at h;obtain ⟨es,_,h⟩:=h;cases h; exact ⟨_,rfl⟩
 ·cases h
theorem Aap:ig X:=by
 intro f g a args J v J' h;unfold X at a;split at a
 ·cases a; exact nC h
 ·cases a
end
end
end Go.Proofs.YtjbledomkmdkmaaGreat
namespace Go.AX
open Go
noncomputable section
section
variable {ρ:Type}
theorem pY (J:Aa) (vs:List Value) (T:TypeId) (rw:Bool) (o:Nat):CW (J++[.cells vs T rw]) J.length o=vs[o]?:=by simp[CW]
theorem xG {J:Aa} {b:Nat} (τ:Aa) (o:Nat) (h:b<J.length):CW (J++τ) b o=CW J b o:=by simp[CW,AT h]
theorem Bv (k:IntKind) (J:Aa) (vs:List Value) (T:TypeId) (rw:Bool) (o:Nat):Aj k (J++[.cells vs T rw]) J.length o=(vs[o]?).bind (Bk k):=by simp[Aj,pY]
theorem HP (k:IntKind) {J:Aa} {b:Nat} (τ:Aa) (o:Nat) (h:b<J.length):Aj k (J++τ) b o=Aj k J b o:=by simp[Aj,xG τ o h]
theorem GB (k:IntKind) (J τ:Aa) (vs:List Value) (T:TypeId) (rw:Bool) (o:Nat):Aj k ((J++[.cells vs T rw])++τ) J.length o=(vs[o]?).bind (Bk k):=by
 rw[HP k τ o (by simp),Bv]
theorem Ah (k:IntKind) (n:Int):Bk k (.int k n)=some n:=by simp[Bk]
theorem An (b:Bool):Dl (.bool b)=some b:=rfl
theorem lz {α β:Type} (c:Bool) (x y:α) (s:β):(bif c then some (x,s) else some (y,s))=some (bif c then x else y,s):=by cases c <;> rfl
theorem iV (J τ:Aa) (m:Option ρ):@FQ Ao ρ J (J++τ) m=m:=by
 have h:@AJ.q Ao J (J++τ)=true:=by
  unfold Ao;simp only[Ad4];exact ⟨τ,rfl⟩
 unfold FQ; rw[h]; rfl
def ZE (m:Option (Value × Aa)) (J:Aa) (v:Value):Prop:=∃ τ,m=some (v,J++τ)
def ZE.mem {m:Option (Value × Aa)} {J:Aa} {v:Value} (h:ZE m J v):Aa:=Classical.choose h
theorem ZE.eq {m:Option (Value × Aa)} {J:Aa} {v:Value} (h:ZE m J v):m=some (v,J++h.mem):=Classical.choose_spec h
def AQ (n:Int):Prop:=-9223372036854775808<=n/\n<9223372036854775808
theorem Ai {n:Int} (h:AQ n):Ar n=n:=IntWalk.i64_in n (by unfold AQ at h; omega)
theorem qSu (x n:Nat) (h:x<n):(0<=(x:Int)/\(x:Int)<((n:Nat):Int))=True:=eq_true (by omega)
theorem dTu (x n:Nat) (h:x<n):decide ((x:Int)<((n:Nat):Int))=true:=decide_eq_true (by omega)
theorem dFu (x n:Nat) (h:¬x<n):decide ((x:Int)<((n:Nat):Int))=false:=decide_eq_false (by omega)
theorem wSu (x:Nat) (h:x<9223372036854775807):Ar ((x:Int)+1)=((x+1:Nat):Int):=Ai (by unfold AQ; omega)
end
end
end Go.AX
