/- The relation between the abstract memory and the world.; The operations that only compute.; The operations that only compute: one by one.; The operati -/
import Derived.Test.YtjbledomkmdkmaaGreatP0
set_option linter.unusedVariables false
set_option linter.unusedSimpArgs false
set_option linter.unusedSectionVars false
section
namespace Go.AX
open Go
theorem tK {ρ:Type} {f:FuncId} {m:Option ρ} {r:ρ} (h:(bif Nat.beq f YF then none else m)=some r):f≠YF∧m=some r:=by
 cases hb:Nat.beq f YF with
 | true=>rw[hb] at h; cases h
 | false=>rw[hb] at h; exact ⟨fun he=>(by rw[he] at hb; cases hb),h⟩
structure kT where
 b:Nat
 o:Nat
 s:Nat
 n:Nat
 m:Nat
abbrev Mu:=Nat→Option kT
mutual
inductive RV (μ:Mu):Value→Value→Prop
 | bool (b:Bool):RV μ (.bool b) (.bool b)
 | int (k:IntKind) (n:Int):RV μ (.int k n) (.int k n)
 | string (s:ByteArray):RV μ (.string s) (.string s)
 | ptrNil:RV μ (.pointer none) (.pointer none)
 | ptr {a:Addr} {k:kT} (h:μ a.block=some k) (hs:a.spot=none):RV μ (.pointer (some a)) (.pointer (some ⟨k.b,k.o+a.off,none⟩))
 | sliceNil:RV μ (.slice none 0 0) (.slice none 0 0)
 | sliceZ {a:Addr} {z:Nat} (x:Addr) (hz:a.spot=some z):RV μ (.slice (some a) 0 0) (.slice (some x) 0 0)
 | slice {a:Addr} {k:kT} {l c c':Nat} (h:μ a.block=some k) (hs:a.spot=none) (hl:l≤c) (hc:c≤c') (hm:a.off+c'*k.s≤k.m):RV μ (.slice (some a) l c) (.slice (some ⟨k.b,k.o+a.off,none⟩) l c')
 | sliceEnd {a:Addr} {k:kT} {o c':Nat} (h:μ a.block=some k) (hs:a.spot=none) (hm:o+c'*k.s≤k.m):
   RV μ (.slice (some a) 0 0) (.slice (some ⟨k.b,k.o+o,none⟩) 0 c')
 | mapNil:RV μ (.map none) (.map none)
 | map {r:Nat} {k:kT} (h:μ r=some k):RV μ (.map (some r)) (.map (some k.b))
 | nilFunc:RV μ .nilFunc .nilFunc
 | nilIface:RV μ .nilIface .nilIface
 | func {f:Fn} {a a' b b':Array Value} (hf:∀ l,f ≠ .yield l) (ha:KE μ a.toList a'.toList) (hb:KE μ b.toList b'.toList):RV μ (.func f a b) (.func f a' b')
 | yield {h:Nat} {k:kT} (hh:μ h=some k):RV μ (.func (.yield h) #[] #[]) (.func (.yield k.b) #[] #[])
 | iface {t:TypeId} {v v':Value} (h:RV μ v v'):RV μ (.iface t v) (.iface t v')
 | agg {a a':Array Value} (h:KE μ a.toList a'.toList) (hl:∀ v ∈ a.toList,v.oneCell'=true):RV μ (.agg a) (.agg a')
 | tuple {a a':Array Value} (h:KE μ a.toList a'.toList):RV μ (.tuple a) (.tuple a')
inductive KE (μ:Mu):List Value→List Value→Prop
 | nil:KE μ [] []
 | cons {v v':Value} {vs vs':List Value} (h:RV μ v v') (t:KE μ vs vs'):KE μ (v::vs) (v'::vs')
end
def Mu.le (μ μ':Mu):Prop:=∀ h k,μ h=some k→μ' h=some k
theorem Mu.le_refl (μ:Mu):μ.le μ:=fun _ _ h=>h
theorem Mu.le_trans {a b c:Mu} (h:a.le b) (g:b.le c):a.le c:=fun _ _ e=>g _ _ (h _ _ e)
mutual
theorem RV.mono {μ μ':Mu} (hm:μ.le μ'):∀ {v v':Value},RV μ v v'→RV μ' v v'
 | _,_,.bool b=>.bool b
 | _,_,.int k n=>.int k n
 | _,_,.string s=>.string s
 | _,_,.ptrNil=>.ptrNil
 | _,_,.ptr h hs=>.ptr (hm _ _ h) hs
 | _,_,.sliceNil=>.sliceNil
 | _,_,.sliceZ x hz=>.sliceZ x hz
 | _,_,.slice h hs hl hc hm'=>.slice (hm _ _ h) hs hl hc hm'
 | _,_,.sliceEnd h hs hm'=>.sliceEnd (hm _ _ h) hs hm'
 | _,_,.mapNil=>.mapNil
 | _,_,.map h=>.map (hm _ _ h)
 | _,_,.nilFunc=>.nilFunc
 | _,_,.nilIface=>.nilIface
 | _,_,.func hf ha hb=>.func hf (KE.mono hm ha) (KE.mono hm hb)
 | _,_,.yield hh=>.yield (hm _ _ hh)
 | _,_,.iface h=>.iface (RV.mono hm h)
 | _,_,.agg h hl=>.agg (KE.mono hm h) hl
 | _,_,.tuple h=>.tuple (KE.mono hm h)
theorem KE.mono {μ μ':Mu} (hm:μ.le μ'):∀ {v v':List Value},KE μ v v'→KE μ' v v'
 | _,_,.nil=>.nil
 | _,_,.cons h t=>.cons (RV.mono hm h) (KE.mono hm t)
end
theorem KE.length {μ:Mu}:∀ {v v':List Value},KE μ v v'→v.length=v'.length
 | _,_,.nil=>rfl
 | _,_,.cons _ t=>by simp[KE.length t]
theorem KE.get {μ:Mu}:∀ {v v':List Value},KE μ v v' → ∀ (i:Nat) (x:Value),v[i]?=some x → ∃ x',v'[i]?=some x'∧RV μ x x'
 | _,_,.nil,i,x,h=>by simp at h
 | _,_,.cons h t,0,x,hx=>by simp at hx; subst hx; exact ⟨_,by simp,h⟩
 | _,_,.cons h t,i+1,x,hx=>by simpa using KE.get t i x (by simpa using hx)
theorem KE.append {μ:Mu}:∀ {v v' u u':List Value},KE μ v v'→KE μ u u'→KE μ (v++u) (v'++u')
 | _,_,_,_,.nil,h=>h
 | _,_,_,_,.cons h t,g=>.cons h (KE.append t g)
theorem KE.xU {μ:Mu}:∀ {v v':List Value},v.length=v'.length→(∀ (i:Nat) x x',v[i]?=some x→v'[i]?=some x'→RV μ x x')→KE μ v v'
 | [],[],_,_=>.nil
 | [],_::_,h,_=>by simp at h
 | _::_,[],h,_=>by simp at h
 | x::xs,y::ys,h,g=>.cons (g 0 x y (by simp) (by simp)) (KE.xU (by simpa using h) fun i a b ha hb=>g (i+1) a b (by simpa using ha) (by simpa using hb))
theorem KE.take {μ:Mu}:∀ {v v':List Value} (n:Nat),KE μ v v'→KE μ (v.take n) (v'.take n)
 | _,_,_,.nil=>by simp; exact .nil
 | _,_,0,.cons _ _=>by simp; exact .nil
 | _,_,n+1,.cons h t=>by simp; exact .cons h (KE.take n t)
theorem KE.drop {μ:Mu}:∀ {v v':List Value} (n:Nat),KE μ v v'→KE μ (v.drop n) (v'.drop n)
 | _,_,_,.nil=>by simp; exact .nil
 | _,_,0,.cons h t=>by simp; exact .cons h t
 | _,_,n+1,.cons h t=>by simp; exact KE.drop n t
theorem KE.rep {μ:Mu} {z z':List Value} (h:KE μ z z'):∀ n:Nat,KE μ (rep n z) (rep n z')
 | 0=>by simp[AX.rep]; exact .nil
 | n+1=>by
   have e:∀ y:List Value,AX.rep (n+1) y=y++AX.rep n y:=fun y=>by simp[AX.rep,List.replicate_succ]
   rw[e,e]; exact h.append (KE.rep h n)
theorem RV.leaf {μ:Mu} {v v':Value} (h:RV μ v v'):v'.oneCell'=v.oneCell':=by cases h <;> rfl
theorem KE.leaf {μ:Mu}:∀ {v v':List Value},KE μ v v'→(∀ x ∈ v,x.oneCell'=true) → ∀ x ∈ v',x.oneCell'=true
 | _,_,.nil,_,x,hx=>by simp at hx
 | _,_,.cons h t,g,x,hx=>by
   rcases List.mem_cons.1 hx with rfl | hx
   ·rw[h.leaf]; exact g _ (by simp)
   ·exact KE.leaf t (fun y hy=>g y (by simp[hy])) x hx
theorem RV.JH {μ:Mu} {v:Value} (h:JH v=true):RV μ v v:=by
 unfold AX.JH at h
 split at h
 ·exact .bool _
 ·exact .int _ _
 ·exact .string _
 ·exact .ptrNil
 ·exact .sliceNil
 ·exact .mapNil
 ·exact .nilFunc
 ·exact .nilIface
 ·cases h
 ·rename_i f a b hne
  simp at h
  obtain ⟨ha,hb⟩:=h
  refine .func (fun l hl=>hne l hl) ?_ ?_
  ·simp[ha]; exact .nil
  ·simp[hb]; exact .nil
 ·simp at h
theorem xQ {v:Value} (h:JH v=true):v.oneCell'=true:=by
 cases v <;> first | rfl | simp[JH] at h
theorem KE.JH {μ:Mu}:∀ {vs:List Value},vs.all AX.JH=true→KE μ vs vs
 | [],_=>.nil
 | v::vs,h=>by
   simp at h
   exact .cons (.JH h.1) (KE.JH (by simpa using h.2))
theorem RV.JU {μ:Mu} {v:Value} (h:JU v=true):RV μ v v:=by
 unfold AX.JU at h
 split at h
 ·exact .agg (.JH h) fun x hx=>xQ (by simp only[List.all_eq_true] at h; exact h x hx)
 ·exact .tuple (.JH h)
 ·exact .JH h
inductive fc (μ:Mu):List (Int × Value)→List MapEntry→Prop
 | nil:fc μ [] []
 | cons {k:Int} {v:Value} {e:MapEntry} {es:List (Int × Value)} {es':List MapEntry} (hk:e.key = .int .i64 k) (hv:RV μ v e.val) (t:fc μ es es'):fc μ ((k,v)::es) (e::es')
theorem fc.mono {μ μ':Mu} (hm:μ.le μ'):∀ {v:List (Int × Value)} {v':List MapEntry},fc μ v v'→fc μ' v v'
 | _,_,.nil=>.nil
 | _,_,.cons hk hv t=>.cons hk (hv.mono hm) (fc.mono hm t)
def OJ (μ:Mu) (regs:AZ) (tmps:Array Value):Prop:=
 regs.length≤tmps.size ∧ ∀ (t:Nat) (v:Value),regs.getD t none=some v → ∃ v',tmps[t]?=some v'∧RV μ v v'
theorem OJ.mono {μ μ':Mu} {regs:AZ} {tmps:Array Value} (h:OJ μ regs tmps) (hm:μ.le μ'):OJ μ' regs tmps:=
 ⟨h.1,fun t v ht=>let ⟨v',h1,h2⟩:=h.2 t v ht; ⟨v',h1,h2.mono hm⟩⟩
def g8:Dh→Option Code
 | .normal=>none
 | .exit id=>some (.exit id)
 | .ret=>some .ret
def StR:LSt→Loop→Prop
 | .ready,r=>r.state = .ready∧r.pending=none
 | .busy,r=>r.state = .busy
 | .done x,r=>r.state = .done∧r.pending=g8 x
def Aka (P:Program) (μ:Mu) (f:FuncId) (st:LSt) (regs:AZ) (r:Loop):Prop:=
 (∃ F c,P.funcs[f]?=some F∧F.body=some c∧CH c=some (r.params,r.assign,r.body))∧OJ μ regs r.tmps∧StR st r
def qm (P:Program) (μ:Mu) (o:A6) (k:kT) (x:Option Obj):Prop:=
 match o with
 | .cells vs T rw=>∃ c T' fz,x=some (.cells c T' fz)∧vs.length=k.n∧k.n≤k.m∧k.o+k.m≤c.size∧k.s=P.cellsOf T∧(rw=true→fz=(0,0)) ∧
   (∀ v ∈ vs,v.oneCell'=true)∧KE μ vs ((c.toList.drop k.o).take k.n)
 | .map es=>∃ entries clock,x=some (.map entries clock)∧fc μ es entries.toList
 | .loop f st regs=>∃ r,x=some (.loop r)∧Aka P μ f st regs r
 | .dead=>True
def alive (σ:Aa) (h:Nat):Prop:=∃ o,σ[h]?=some o∧o ≠ .dead
def Ay (σ:Aa) (h:Nat):Prop:=
 match σ[h]? with
 | some (.cells _ _ true) | some (.map _) | some (.loop _ _ _)=>True
 | _=>False
structure R (P:Program) (μ:Mu) (σ:Aa) (w:World):Prop where
 obj:∀ h o k,σ[h]?=some o→μ h=some k→qm P μ o k w.heap[k.b]?
 lt:∀ h k,μ h=some k→k.b<w.heap.size
 inj:∀ h h' k k',μ h=some k→μ h'=some k'→alive σ h→alive σ h'→Ay σ h∨Ay σ h'→k.b=k'.b→h=h'
def Ia (μ:Mu) (lo hi:Nat):Prop:=∀ h,lo≤h→h<hi→μ h=none
structure Step (μ:Mu) (σ:Aa) (w:World) (μ':Mu) (σ':Aa) (w':World):Prop where
 len:σ.length≤σ'.length
 mu:∀ h,(h<σ.length∨σ'.length≤h)→μ' h=μ h
 wr:∀ h,h<σ.length→Ay σ' h→Ay σ h
 new:∀ h k,σ.length≤h→h<σ'.length→μ' h=some k→w.heap.size≤k.b ∨ ∃ h0 k0,h0<σ.length∧μ h0=some k0∧k0.b=k.b∧Ay σ h0
 size:w.heap.size≤w'.heap.size
 tape:w'.tape=w.tape
 os:w'.os=w.os
 output:w'.output=w.output
 frame:∀ b,b<w.heap.size→(∀ h k,h<σ.length→μ h=some k→k.b=b→¬ Ay σ h)→w'.heap[b]?=w.heap[b]?
theorem Step.refl (μ:Mu) (σ:Aa) (w:World):Step μ σ w μ σ w:=
 ⟨Nat.le_refl _,fun _ _=>rfl,fun _ _ h=>h,fun h k h1 h2=>absurd h2 (by omega),Nat.le_refl _,rfl,rfl,rfl,fun _ _ _=>rfl⟩
theorem Step.le {μ μ':Mu} {σ σ':Aa} {w w':World} (s:Step μ σ w μ' σ' w') (f:Ia μ σ.length σ'.length):μ.le μ':=by
 intro h k hk
 by_cases h1:h<σ.length∨σ'.length≤h
 ·rw[s.mu h h1]; exact hk
 ·rw[f h (by omega) (by omega)] at hk; cases hk
theorem Ia.sub {μ:Mu} {a b c d:Nat} (h:Ia μ a b) (h1:a≤c) (h2:d≤b):Ia μ c d:=fun x hx hy=>h x (by omega) (by omega)
theorem Ia.step {μ μ':Mu} {σ σ':Aa} {w w':World} {hi:Nat} (s:Step μ σ w μ' σ' w') (f:Ia μ σ.length hi):Ia μ' σ'.length hi:=by
 intro h h1 h2
 rw[s.mu h (.inr h1)]
 exact f h (Nat.le_trans s.len h1) h2
theorem Step.trans {μ μ' μ'':Mu} {σ σ' σ'':Aa} {w w' w'':World} (s:Step μ σ w μ' σ' w') (t:Step μ' σ' w' μ'' σ'' w''):Step μ σ w μ'' σ'' w'':=by
 refine ⟨Nat.le_trans s.len t.len, ?_, ?_, ?_,Nat.le_trans s.size t.size,t.tape.trans s.tape,t.os.trans s.os,t.output.trans s.output, ?_⟩
 ·intro h hh
  have l1:=s.len; have l2:=t.len
  rw[t.mu h (by omega),s.mu h (by omega)]
 ·intro h hh hw
  exact s.wr h hh (t.wr h (Nat.lt_of_lt_of_le hh s.len) hw)
 ·intro h k h1 h2 hk
  by_cases hlt:h<σ'.length
  ·rw[t.mu h (.inl hlt)] at hk
   exact s.new h k h1 hlt hk
  ·rcases t.new h k (by omega) h2 hk with hb | ⟨h0,k0,hh0,hk0,hb,hw⟩
   ·exact .inl (Nat.le_trans s.size hb)
   ·by_cases h0lt:h0<σ.length
    ·rw[s.mu h0 (.inl h0lt)] at hk0
     exact .inr ⟨h0,k0,h0lt,hk0,hb,s.wr h0 h0lt hw⟩
    ·rcases s.new h0 k0 (by omega) hh0 hk0 with hb' | ⟨h1',k1,hh1,hk1,hb1,hw1⟩
     ·exact .inl (by omega)
     ·exact .inr ⟨h1',k1,hh1,hk1,hb1.trans hb,hw1⟩
 ·intro b hb hn
  rw[t.frame b (Nat.lt_of_lt_of_le hb s.size) ?_,s.frame b hb hn]
  intro h k hh hk hkb hw
  by_cases hlt:h<σ.length
  ·rw[s.mu h (.inl hlt)] at hk
   exact hn h k hlt hk hkb (s.wr h hlt hw)
  ·rcases s.new h k (by omega) hh hk with hb' | ⟨h0,k0,hh0,hk0,hb0,hw0⟩
   ·omega
   ·exact hn h0 k0 hh0 hk0 (hb0.trans hkb) hw0
theorem R.drew {P:Program} {μ:Mu} {σ:Aa} {w:World} (h:R P μ σ w):R P μ σ w.drew:=⟨h.obj,h.lt,h.inj⟩
theorem Step.drew (μ:Mu) (σ:Aa) (w:World):Step μ σ w μ σ w.drew:=
 ⟨Nat.le_refl _,fun _ _=>rfl,fun _ _ h=>h,fun h k h1 h2=>absurd h2 (by omega),Nat.le_refl _,rfl,rfl,rfl,fun _ _ _=>rfl⟩
theorem qm.mono {P:Program} {μ μ':Mu} (hm:μ.le μ') {o:A6} {k:kT} {x:Option Obj} (h:qm P μ o k x):qm P μ' o k x:=by
 cases o with
 | cells vs T rw=>
   obtain ⟨c,T',fz,hx,h1,h2,h3,h4,h5,h6,h7⟩:=h
   exact ⟨c,T',fz,hx,h1,h2,h3,h4,h5,h6,h7.mono hm⟩
 | map es=>
   obtain ⟨entries,clock,hx,h1⟩:=h
   exact ⟨entries,clock,hx,h1.mono hm⟩
 | loop f st regs=>
   obtain ⟨r,hx,h1,h2,h3⟩:=h
   exact ⟨r,hx,h1,h2.mono hm,h3⟩
 | dead=>trivial
def Mu.put (μ:Mu) (h:Nat) (k:kT):Mu:=fun x=>if x=h then some k else μ x
theorem Mu.FN (μ:Mu) (h:Nat) (k:kT):μ.put h k h=some k:=by simp[Mu.put]
theorem Mu.Gd (μ:Mu) {h x:Nat} (k:kT) (hx:x≠h):μ.put h k x=μ x:=by simp[Mu.put,hx]
theorem Mu.Aef {μ:Mu} {h:Nat} {k:kT} (hn:μ h=none):μ.le (μ.put h k):=by
 intro x y hx
 rw[Mu.Gd μ k (by rintro rfl; rw[hn] at hx; cases hx)]; exact hx
theorem Su {σ:Aa} {o:A6} {h:Nat} (hh:h≠σ.length) (hw:Ay (σ++[o]) h):Ay σ h:=by
 unfold Ay at hw ⊢
 by_cases hlt:h<σ.length
 ·rwa [List.getElem?_append_left hlt] at hw
 ·rw[List.getElem?_eq_none (by simp; omega)] at hw; exact hw.elim
theorem iA {σ:Aa} {o:A6} {h:Nat} (hh:h≠σ.length) (ha:alive (σ++[o]) h):alive σ h:=by
 obtain ⟨x,hx,hd⟩:=ha
 have hlt:h<σ.length:=by
  have:=(List.getElem?_eq_some_iff.1 hx).1
  simp at this; omega
 exact ⟨x,by rwa [List.getElem?_append_left hlt] at hx,hd⟩
theorem heap_alloc_old {w:World} {x:Obj} {b:Nat} (hb:b<w.heap.size):(w.alloc x).heap[b]?=w.heap[b]?:=by
 show (w.heap.push x)[b]?=_
 rw[Array.getElem?_push,if_neg (by omega)]
theorem heap_alloc_new (w:World) (x:Obj):(w.alloc x).heap[w.heap.size]?=some x:=by
 show (w.heap.push x)[w.heap.size]?=_
 rw[Array.getElem?_push,if_pos rfl]
theorem R.alloc {P:Program} {μ:Mu} {σ:Aa} {w:World} {o:A6} {x:Obj} {k:kT} (h:R P μ σ w) (hf:μ σ.length=none) (hb:k.b=w.heap.size)
  (ho:qm P μ o k (some x)):R P (μ.put σ.length k) (σ++[o]) (w.alloc x):=by
 have hle:μ.le (μ.put σ.length k):=Mu.Aef hf
 have hold:∀ b,b<w.heap.size→(w.alloc x).heap[b]?=w.heap[b]?:=fun b hb=>heap_alloc_old hb
 refine ⟨?_, ?_, ?_⟩
 ·intro h' o' k' ho' hk'
  by_cases he:h'=σ.length
  ·subst he
   rw[Mu.FN] at hk'
   cases hk'
   simp at ho'
   subst ho'
   have:(w.alloc x).heap[k.b]?=some x:=by rw[hb]; exact heap_alloc_new w x
   rw[this]
   exact ho.mono hle
  ·rw[Mu.Gd μ k he] at hk'
   have hlt:h'<σ.length:=by
    have:=(List.getElem?_eq_some_iff.1 ho').1
    simp at this; omega
   rw[List.getElem?_append_left hlt] at ho'
   rw[hold _ (h.lt _ _ hk')]
   exact (h.obj h' o' k' ho' hk').mono hle
 ·intro h' k' hk'
  by_cases he:h'=σ.length
  ·subst he; rw[Mu.FN] at hk'; cases hk'; simp[hb]
  ·rw[Mu.Gd μ k he] at hk'
   have:=h.lt _ _ hk'; simp; omega
 ·intro a b ka kb ha hb' haa hab hww hkk
  by_cases he:a=σ.length <;> by_cases he':b=σ.length
  ·omega
  ·subst he; rw[Mu.FN] at ha; cases ha
   rw[Mu.Gd μ k he'] at hb'
   have:=h.lt _ _ hb'; omega
  ·subst he'; rw[Mu.FN] at hb'; cases hb'
   rw[Mu.Gd μ k he] at ha
   have:=h.lt _ _ ha; omega
  ·rw[Mu.Gd μ k he] at ha
   rw[Mu.Gd μ k he'] at hb'
   exact h.inj a b ka kb ha hb' (iA he haa) (iA he' hab) (hww.imp (Su he) (Su he')) hkk
theorem mS {σ:Aa} {o:A6} {h:Nat} (hlt:h<σ.length):Ay (σ++[o]) h=Ay σ h:=by
 unfold Ay; rw[List.getElem?_append_left hlt]
theorem Step.alloc {μ:Mu} {σ:Aa} {w:World} {o:A6} {x:Obj} {k:kT} (hb:k.b=w.heap.size):Step μ σ w (μ.put σ.length k) (σ++[o]) (w.alloc x):=by
 refine ⟨by simp, ?_, ?_, ?_,by simp,rfl,rfl,rfl, ?_⟩
 ·intro h hh; exact Mu.Gd μ k (by simp at hh; omega)
 ·intro h hh hw; rwa [mS hh] at hw
 ·intro h k' h1 h2 hk
  have:h=σ.length:=by simp at h2; omega
  subst this; rw[Mu.FN] at hk; cases hk; exact .inl (by omega)
 ·intro b hb _
  exact heap_alloc_old hb
end Go.AX
end
section
namespace Go.AX
open Go
theorem bM {ρ:Type} {k:Kd} {v:Value} {K:Value→Option ρ} {r:ρ} (h:asK k v K=some r):K v=some r:=by
 cases k <;> simp only[asK] at h
 all_goals first
  | exact h
  | (simp only[Option.bind_eq_some_iff] at h
     obtain ⟨n,h1,h2⟩:=h
     cases v <;> simp only[Ml,Ez,toStr,NJ,H7,uv] at h1 <;> first
      | (cases h1; done)
      | (cases h1; exact h2)
      | (split at h1
         ·rename_i hk; subst hk; cases h1; exact h2
         ·cases h1))
theorem jR {ρ:Type}:∀ {ks:List Kd} {l:List Value} {K:List Value→Option ρ} {r:ρ},tq ks l K=some r→ks.length≤l.length∧K (l.take ks.length)=some r
 | [],l,K,r,h=>by simpa [tq] using h
 | k::ks,[],K,r,h=>by simp[tq] at h
 | k::ks,v::vs,K,r,h=>by
   simp only[tq,List.head?_cons,Option.bind_some,List.tail_cons] at h
   have:=jR (bM h)
   simpa using this
theorem uX {ρ:Type} {P:Program} {T:TypeId} {v:Value} {K:Value→Option ρ} {r:ρ} (h:asT P T v K=some r):K v=some r:=by
 unfold asT at h
 split at h
 ·cases v <;> simp[toA] at h
  rename_i vs
  obtain ⟨hl,h⟩:=h
  have:=(jR h).2
  rw[← hl,← Array.length_toList,List.take_length] at this
  simpa using this
 ·cases h
 ·exact bM h
 ·cases h
theorem rB {ρ:Type} {P:Program}:∀ {Ts:List TypeId} {l:List Value} {K:List Value→Option ρ} {r:ρ},Aad P Ts l K=some r→Ts.length≤l.length∧K (l.take Ts.length)=some r
 | [],l,K,r,h=>by simpa [Aad] using h
 | k::ks,[],K,r,h=>by simp[Aad] at h
 | k::ks,v::vs,K,r,h=>by
   simp only[Aad,List.head?_cons,Option.bind_some,List.tail_cons] at h
   have:=rB (uX h)
   simpa using this
theorem Zk {ρ:Type} {P:Program} {T:TypeId} {v:Value} {K:Value→Option ρ} {r:ρ} (h:Adi P T v K=some r):K v=some r:=by
 unfold Adi at h
 split at h
 ·cases v <;> simp[qk] at h
  rename_i ts _ vs
  obtain ⟨hl,h⟩:=h
  have:=(rB h).2
  rw[Array.length_toList,← hl,← Array.length_toList,List.take_length] at this
  simpa using this
 ·exact uX h
theorem vB {ρ:Type} {k:Kd} {σ:Aa} {b o:Nat} {K:Value→Option ρ} {r:ρ} (h:ldK k σ b o K=some r):∃ v,Gi σ b o=some v∧K v=some r:=by
 cases k <;> simp only[ldK,Dg,lO,rS,L8,Hx,ldM,Option.bind_eq_some_iff] at h
 all_goals first
  | (obtain ⟨v,h1,h2⟩:=h; exact ⟨v,h1,h2⟩)
  | (obtain ⟨n,⟨v,h1,h3⟩,h2⟩:=h
     refine ⟨v,h1, ?_⟩
     cases v <;> simp only[Ml,Ez,toStr,NJ,H7,uv] at h3 <;> first
      | (cases h3; done)
      | (cases h3; exact h2)
      | (split at h3
         ·rename_i hk; subst hk; cases h3; exact h2
         ·cases h3))
theorem rQ {ρ:Type}:∀ {ks:List Kd} {σ:Aa} {b o:Nat} {K:List Value→Option ρ} {r:ρ},oW ks σ b o K=some r →
  ∃ vs,vs.length=ks.length∧(∀ (j:Nat) (x:Value),vs[j]?=some x→Gi σ b (o+j)=some x)∧K vs=some r
 | [],σ,b,o,K,r,h=>⟨[],rfl,by simp,h⟩
 | k::ks,σ,b,o,K,r,h=>by
   simp only[oW] at h
   obtain ⟨v,h1,h2⟩:=vB h
   obtain ⟨vs,hl,hv,hK⟩:=rQ h2
   refine ⟨v::vs,by simp[hl], ?_,hK⟩
   intro j x hx
   cases j with
   | zero=>simp at hx; subst hx; simpa using h1
   | succ j=>simp at hx; have:=hv j x hx; rwa [show o+1+j=o+(j+1) by omega] at this
theorem QA {ρ:Type} {e:Operand→Option Value}:∀ {xs:List Operand} {K:List Value→Option ρ} {r:ρ},evs e xs K=some r →
  ∃ vs,K vs=some r ∧ ∀ (μ:Mu) (f:Operand→Value),(∀ x u,e x=some u→RV μ u (f x))→KE μ vs (xs.map f)
 | [],K,r,h=>⟨[],h,fun _ _ _=>.nil⟩
 | x::xs,K,r,h=>by
   simp only[evs,Option.bind_eq_some_iff] at h
   obtain ⟨v,hv,h⟩:=h
   obtain ⟨vs,hK,hr⟩:=QA h
   exact ⟨v::vs,hK,fun μ f hf=>.cons (hf x v hv) (hr μ f hf)⟩
inductive RPs (μ:Mu):List (Nat × Value)→List (Nat × Value)→Prop
 | nil:RPs μ [] []
 | cons {i:Nat} {v v':Value} {vs vs':List (Nat × Value)} (h:RV μ v v') (t:RPs μ vs vs'):RPs μ ((i,v)::vs) ((i,v')::vs')
theorem oF {ρ:Type} {e:Operand→Option Value}:∀ {xs:List (Nat × Operand)} {K:List (Nat × Value)→Option ρ} {r:ρ},evp e xs K=some r →
  ∃ vs,K vs=some r ∧ ∀ (μ:Mu) (f:Operand→Value),(∀ x u,e x=some u→RV μ u (f x))→RPs μ vs (xs.map fun p=>(p.1,f p.2))
 | [],K,r,h=>⟨[],h,fun _ _ _=>.nil⟩
 | (i,x)::xs,K,r,h=>by
   simp only[evp,Option.bind_eq_some_iff] at h
   obtain ⟨v,hv,h⟩:=h
   obtain ⟨vs,hK,hr⟩:=oF h
   exact ⟨(i,v)::vs,hK,fun μ f hf=>.cons (hf x v hv) (hr μ f hf)⟩
theorem run_sizeOf {P:Program} {T:TypeId} {s:Nat} (h:IW P T=some s) (w:World):(sizeOf T).run P w = .ok s w:=by
 unfold IW at h
 cases hi:P.info? T with
 | none=>simp[hi] at h
 | some i=>
   simp[hi] at h
   simp[sizeOf,typeInfo,hi,h]
theorem MC {P:Program} {T:TypeId} {z:Value} (h:FT P T=some z) (w:World):(zeroValue T).run P w = .ok z w∧JU z=true:=by
 unfold FT at h
 simp only[Option.bind_eq_some_iff] at h
 obtain ⟨i,hi,y,hy,hz⟩:=h
 split at hz
 ·cases hz
  exact ⟨by simp[zeroValue,typeInfo,hi,hy],‹_›⟩
 ·cases hz
theorem PL {P:Program} {T:TypeId} {d:TypeDesc} (h:P.underlying T=some d) (w:World):(isAgg T).run P w = .ok (NB P T) w:=by
 unfold NB
 simp only[isAgg,Sem.run_bind,run_underlying h,Result.andThen_ok,h]
 cases d <;> rfl
theorem L5 {μ:Mu} {v v':Value} (h:RV μ v v') (ht:Hb v=false):KE μ v.cells.toList v'.cells.toList∧(∀ x ∈ v.cells.toList,x.oneCell'=true)∧Hb v'=false:=by
 cases h <;> first
  | (simp[Hb] at ht; done)
  | (rename_i h hl; exact ⟨h,hl,rfl⟩)
  | (refine ⟨?_, ?_,rfl⟩
     ·refine .cons ?_ .nil
      first
       | exact .bool _ | exact .int _ _ | exact .string _ | exact .ptrNil | exact .sliceNil | exact .mapNil | exact .nilFunc | exact .nilIface
       | (constructor <;> assumption)
     ·intro x hx; simp[Value.cells] at hx; subst hx; rfl)
def bC (P:Program) (o:Oper) (e:Operand→Option Value) (v:Value):Prop:=
 ∀ (μ:Mu) (w:World) (f:Operand→Value),(∀ x u,e x=some u→RV μ u (f x)) → ∃ v',(execOp f o).run P w = .ok (.value v') w∧RV μ v v'
section
variable {ρ:Type} {P:Program} [A9]
theorem Aag {op:BinOp} {k:IntKind} {a b:Int} {K:Value→Option ρ} {r:ρ} (h:Ai1 op k a b K=some r):
  ∃ v,K v=some r∧JH v=true ∧ ∀ (w:World) T,(binOp op T (.int k a) (.int k b)).run P w = .ok v w:=by
 cases op <;> simp only[Ai1] at h
 case quo=>
  split at h
  ·cases h
  ·exact ⟨_,h,rfl,fun w T=>by simp[binOp,Op.intDiv, *]⟩
 case rem=>
  split at h
  ·cases h
  ·exact ⟨_,h,rfl,fun w T=>by simp[binOp,Op.intDiv, *]⟩
 all_goals first
  | (cases h; done)
  | exact ⟨_,h,rfl,fun w T=>by simp[binOp,Op.intArith,Op.intBits,Op.intCmp]⟩
theorem mb {op:BinOp} {k k':IntKind} {a b:Int} {K:Value→Option ρ} {r:ρ} (h:ud op k a b K=some r):
  ∃ v,K v=some r∧JH v=true ∧ ∀ (w:World) T,(binOp op T (.int k a) (.int k' b)).run P w = .ok v w:=by
 unfold ud at h
 split at h
 ·cases h
 ·cases op <;> simp only at h
  all_goals first
   | (cases h; done)
   | exact ⟨_,h,rfl,fun w T=>by simp[binOp,Op.shift, *]⟩
theorem Aar {T:TypeId} {a b:Value} {t:Bool} (h:xu P T a b=some t) {μ:Mu} {a' b':Value} (ha:RV μ a a') (hb:RV μ b b') (n:Nat) (w:World):
  (Op.equalIn (n+1) T a' b').run P w = .ok t w:=by
 unfold xu at h
 split at h
 ·rename_i hd
  cases ha; cases hb
  split at h
  ·cases h; simp[Op.equalIn,run_underlying hd, *]
  ·cases h
 ·rename_i hd
  cases ha; cases hb; cases h
  simp[Op.equalIn,run_underlying hd]
 ·rename_i hd
  cases ha; cases hb; cases h
  simp[Op.equalIn,run_underlying hd]
 ·cases h
theorem Aas {T:TypeId} {a b:Value} {t:Bool} (h:xu P T a b=some t):∃ d,P.underlying T=some d:=by
 unfold xu at h
 split at h <;> first | (cases h; done) | exact ⟨_,‹_›⟩
theorem vZ {T:TypeId} {d:TypeDesc} (hd:P.underlying T=some d) (ha:NB P T=false) {xs:Array Value} {i:Nat} {v:Value} (hv:xs.toList[i]?=some v) (w:World):
  (part T xs i).run P w = .ok v w:=by
 have:xs[i]?=some v:=by simpa using hv
 simp[part,PL hd,ha,this]
theorem rG {μ:Mu} (n:Nat) (w:World) (xs ys:Array Value):∀ (fs:List Field) (as bs as' bs':List Value) (i:Nat) (t:Bool),oD P fs as bs=some t→cp P i fs=true →
  KE μ as as'→KE μ bs bs'→xs.toList.drop i=as'→ys.toList.drop i=bs'→(Op.eqFields (n+1) xs ys fs).run P w = .ok t w
 | [],[],[],as',bs',i,t,h,hf,ha,hb,hx,hy=>by
   simp[oD] at h; subst h; simp[Op.eqFields]
 | f::fs,a::as,b::bs,a'::as',b'::bs',i,t,h,hf,.cons ha1 ha2,.cons hb1 hb2,hx,hy=>by
   simp only[cp,Bool.and_eq_true,bne_iff_ne,ne_eq,beq_iff_eq,Bool.not_eq_true'] at hf
   obtain ⟨⟨⟨hn,ho⟩,hg⟩,hf⟩:=hf
   have hxa:xs.toList[i]?=some a':=by have:=congrArg (·[0]?) hx; simpa using this
   have hyb:ys.toList[i]?=some b':=by have:=congrArg (·[0]?) hy; simpa using this
   have hx':xs.toList.drop (i+1)=as':=by rw[← List.drop_drop,hx]; rfl
   have hy':ys.toList.drop (i+1)=bs':=by rw[← List.drop_drop,hy]; rfl
   have key:∃ t1,xu P f.type a b=some t1∧(t1=true→oD P fs as bs=some t)∧(t1=false→t=false):=by
    cases fs with
    | nil=>
      cases as with
      | nil=>
        cases bs with
        | nil=>refine ⟨t,by simpa [oD] using h,fun e=>by subst e; rfl,fun e=>e⟩
        | cons _ _ =>
          simp only[oD,Option.bind_eq_some_iff] at h
          obtain ⟨t1,h1,h2⟩:=h
          exact ⟨t1,h1,by rintro rfl; first | (simp at h2; done) | simpa using h2,by rintro rfl; simp at h2; exact h2⟩
      | cons _ _=>
        simp only[oD,Option.bind_eq_some_iff] at h
        obtain ⟨t1,h1,h2⟩:=h
        exact ⟨t1,h1,by rintro rfl; first | (simp at h2; done) | simpa using h2,by rintro rfl; simp at h2; exact h2⟩
    | cons _ _=>
       simp only[oD,Option.bind_eq_some_iff] at h
       obtain ⟨t1,h1,h2⟩:=h
       exact ⟨t1,h1,by rintro rfl; first | (simp at h2; done) | simpa using h2,by rintro rfl; simp at h2; exact h2⟩
   obtain ⟨t1,h1,h2,h3⟩:=key
   obtain ⟨d,hd⟩:=Aas h1
   simp only[Op.eqFields,hn,ne_eq,not_false_eq_true,if_true,Sem.run_bind,ho,vZ hd hg hxa,vZ hd hg hyb,Result.andThen_ok,Aar h1 ha1 hb1]
   cases t1
   ·simp[h3 rfl]
   ·simp only[Bool.not_true,Bool.false_eq_true,if_false]
    exact rG n w xs ys fs as bs as' bs' (i+1) t (h2 rfl) hf ha2 hb2 hx' hy'
 | _::_,[],_,_,_,_,_,h,_,_,_,_,_=>by simp[oD] at h
 | _::_,_::_,[],_,_,_,_,h,_,_,_,_,_=>by simp[oD] at h
theorem mJ {T e:TypeId} (hd:P.underlying T=some (.pointer e)) (n:Nat) (y:Option Addr) (w:World):(Op.equalIn (n+1) T (.pointer none) (.pointer y)).run P w = .ok y.isNone w:=by
 simp[Op.equalIn,run_underlying hd]
theorem mK {T e:TypeId} (hd:P.underlying T=some (.pointer e)) (n:Nat) (y:Option Addr) (w:World):(Op.equalIn (n+1) T (.pointer y) (.pointer none)).run P w = .ok y.isNone w:=by
 cases y <;> simp[Op.equalIn,run_underlying hd]
theorem iI {T e:TypeId} (hd:P.underlying T=some (.slice e)) (n:Nat) (y:Option Addr) (l c l' c':Nat) (w:World):(Op.equalIn (n+1) T (.slice none l c) (.slice y l' c')).run P w = .ok y.isNone w:=by
 simp[Op.equalIn,run_underlying hd]
theorem iJ {T e:TypeId} (hd:P.underlying T=some (.slice e)) (n:Nat) (y:Option Addr) (l c l' c':Nat) (w:World):(Op.equalIn (n+1) T (.slice y l c) (.slice none l' c')).run P w = .ok y.isNone w:=by
 cases y <;> simp[Op.equalIn,run_underlying hd]
theorem vk {T:TypeId} {a b:Value} {t:Bool} (h:Od P T a b=some t) {μ:Mu} {a' b':Value} (ha:RV μ a a') (hb:RV μ b b') (w:World) (x y:Operand) (op:BinOp):
  (eqGuard op T x y a' b').run P w = .ok () w∧(Op.equal T a' b').run P w = .ok t w∧(∀ op,binOp op T a' b'=match op with
   | .eql=>do pure (.bool (← Op.equal T a' b'))
   | .neq=>do pure (.bool (!(← Op.equal T a' b')))
   | op=>binOp op T a' b'):=by
 unfold Od at h
 split at h
 ·split at h
  ·rename_i hd
   cases ha; cases hb; cases h
   exact ⟨by cases op <;> simp[eqGuard],run_equalIn_bool' w 9999 T _ _ hd,fun op=>by cases op <;> simp only[binOp]⟩
  ·cases h
 ·split at h
  ·rename_i hd
   cases ha; cases h
   cases hb <;>
    exact ⟨by cases op <;> simp[eqGuard],mJ hd 9999 _ w,fun op=>by cases op <;> simp only[binOp]⟩
  ·cases h
 ·split at h
  ·rename_i hd
   cases hb; cases h
   cases ha <;>
    exact ⟨by cases op <;> simp[eqGuard],mK hd 9999 _ w,fun op=>by cases op <;> simp only[binOp]⟩
  ·cases h
 ·split at h
  ·rename_i hd
   cases ha; cases h
   cases hb <;>
    exact ⟨by cases op <;> simp[eqGuard],iI hd 9999 _ _ _ _ _ w,fun op=>by cases op <;> simp only[binOp]⟩
  ·cases h
 ·split at h
  ·rename_i hd
   cases hb; cases h
   cases ha <;>
    exact ⟨by cases op <;> simp[eqGuard],iJ hd 9999 _ _ _ _ _ w,fun op=>by cases op <;> simp only[binOp]⟩
  ·cases h
 ·split at h
  ·rename_i fs hd
   cases hc:(cp P 0 fs.toList && !P.stoodInHeld T && !P.eqGuardType P.depth T) with
   | false=>rw[hc] at h; cases h
   | true=>
     rw[hc] at h
     simp only[cond_true] at h
     simp only[Bool.and_eq_true,Bool.not_eq_true'] at hc
     obtain ⟨⟨hf,hs⟩,hg⟩:=hc
     have hfo:P.fieldsOf T=fs:=by simp[Program.fieldsOf,hd]
     cases ha with
     | agg ha _=>
       cases hb with
       | agg hb _=>
         refine ⟨run_eqGuard_agg w op T x y _ _ hg, ?_,fun op=>by cases op <;> simp only[binOp]⟩
         show (Op.equalIn (9999+1) T _ _).run P w=_
         rw[run_equalIn_struct w 9999 T _ _ (by rw[hd,hfo]) hs,hfo]
         exact rG 9998 w _ _ fs.toList _ _ _ _ 0 t h hf ha hb (by simp) (by simp)
  ·cases h
 ·cases h
end
end Go.AX
end
section
namespace Go.AX
open Go
variable {ρ:Type} {P:Program} [A9]
theorem Aaf {op:BinOp} {T:TypeId} {a b:Value} {K:Value→Option ρ} {r:ρ} (h:Ai0 P op T a b K=some r):
  ∃ v,K v=some r∧JH v=true ∧ ∀ (μ:Mu) (a' b':Value),RV μ a a'→RV μ b b' → ∀ (w:World) (x y:Operand),
   (do eqGuard op T x y a' b'; binOp op T a' b':Sem Value).run P w = .ok v w:=by
 unfold Ai0 at h
 split at h
 ·rename_i k m k' n
  have hg:∀ (w:World) (x y:Operand),(eqGuard op T x y (.int k m) (.int k' n)).run P w = .ok () w:=fun w x y=>by cases op <;> simp[eqGuard]
  split at h
  ·obtain ⟨v,h1,h2,h3⟩:=mb (P:=P) (k':=k') h
   refine ⟨v,h1,h2,fun μ a' b' ha hb w x y=>?_⟩
   cases ha; cases hb
   simp only[Sem.run_bind,hg,Result.andThen_ok]
   exact h3 w T
  ·obtain ⟨v,h1,h2,h3⟩:=mb (P:=P) (k':=k') h
   refine ⟨v,h1,h2,fun μ a' b' ha hb w x y=>?_⟩
   cases ha; cases hb
   simp only[Sem.run_bind,hg,Result.andThen_ok]
   exact h3 w T
  ·split at h
   ·rename_i hk; subst hk
    obtain ⟨v,h1,h2,h3⟩:=Aag (P:=P) h
    refine ⟨v,h1,h2,fun μ a' b' ha hb w x y=>?_⟩
    cases ha; cases hb
    simp only[Sem.run_bind,hg,Result.andThen_ok]
    exact h3 w T
   ·cases h
 ·split at h
  ·simp only[Option.bind_eq_some_iff] at h
   obtain ⟨t,h1,h2⟩:=h
   refine ⟨_,h2,rfl,fun μ a' b' ha hb w x y=>?_⟩
   obtain ⟨g1,g2,g3⟩:=vk h1 ha hb w x y .eql
   simp only[Sem.run_bind,g1,Result.andThen_ok,g3,g2,Sem.run_pure]
  ·simp only[Option.bind_eq_some_iff] at h
   obtain ⟨t,h1,h2⟩:=h
   refine ⟨_,h2,rfl,fun μ a' b' ha hb w x y=>?_⟩
   obtain ⟨g1,g2,g3⟩:=vk h1 ha hb w x y .neq
   simp only[Sem.run_bind,g1,Result.andThen_ok,g3,g2,Sem.run_pure]
  ·cases h
theorem Afh {op:UnOp} {a:Value} {K:Value→Option ρ} {r:ρ} (h:unA op a K=some r):
  ∃ v,K v=some r∧JH v=true ∧ ∀ (μ:Mu) (a':Value),RV μ a a' → ∀ (w:World),(Op.unary op a').run P w = .ok v w:=by
 unfold unA at h
 split at h
 ·exact ⟨_,h,rfl,fun μ a' ha w=>by cases ha; simp[Op.unary]⟩
 ·exact ⟨_,h,rfl,fun μ a' ha w=>by cases ha; simp[Op.unary,Op.intArith]⟩
 ·cases h
theorem Z3 {T:TypeId} {f:Nat} {ot:Nat × TypeId} (h:iN P T f=some ot):
  ∃ (fs:Array Field) (x:Field),P.underlying T=some (.struct fs)∧fs[f]?=some x∧x.offset=ot.1∧x.type=ot.2:=by
 unfold iN at h
 split at h
 ·rename_i fs hd
  split at h
  ·rename_i x hx
   cases h
   exact ⟨fs,x,hd,by simpa using hx,rfl,rfl⟩
  ·cases h
 ·cases h
theorem oo {T E:TypeId} {n:Nat} (h:uW P T=some (n,E)):P.underlying T=some (.array n E):=by
 unfold uW at h
 split at h
 ·cases h; assumption
 ·cases h
theorem Le {T E:TypeId} (h:WG P T=some E):P.underlying T=some (.slice E):=by
 unfold WG at h
 split at h
 ·cases h; assumption
 ·cases h
theorem NM (b o n:Nat):(⟨b,o,none⟩:Addr).add n=⟨b,o+n,none⟩:=by
 unfold Addr.add; split <;> simp_all
theorem vr (off:Nat):∀ (l:List Value) (k:Nat) (a:Array Value),off+k+l.length≤a.size →
  ((l.zipIdx k).foldl (fun (cs:Array Value) (p:Value × Nat)=>cs.setIfInBounds (off+p.2) p.1) a).toList=a.toList.take (off+k)++l++a.toList.drop (off+k+l.length)
 | [],k,a,h=>by simp
 | v::l,k,a,h=>by
   simp only[List.zipIdx_cons,List.foldl_cons]
   have ih:=vr off l (k+1) (a.setIfInBounds (off+k) v) (by simp at h ⊢; omega)
   rw[ih]
   have e:=list_seg_step a.toList (off+k) v l (by simp at h ⊢; omega)
   simpa [Array.toList_setIfInBounds,Nat.add_assoc] using e
theorem xC (off:Nat) (l a:Array Value) (h:off+l.size≤a.size):
  (l.zipIdx.foldl (fun (cs:Array Value) (p:Value × Nat)=>cs.setIfInBounds (off+p.2) p.1) a).toList=AL a.toList off l.toList:=by
 rw[← Array.foldl_toList,Array.toList_zipIdx]
 have:=vr off l.toList 0 a (by simpa using h)
 simpa [AL] using this
theorem KE.AL {μ:Mu} {cs cs' vs vs':List Value} (h:KE μ cs cs') (g:KE μ vs vs') (o:Nat):KE μ (AL cs o vs) (AL cs' o vs'):=by
 unfold AX.AL
 rw[g.length]
 exact ((h.take o).append g).append (h.drop _)
theorem X3 {cs vs:List Value} {o:Nat} (h:∀ v ∈ cs,v.oneCell'=true) (g:∀ v ∈ vs,v.oneCell'=true):∀ v ∈ AL cs o vs,v.oneCell'=true:=by
 intro v hv
 unfold AX.AL at hv
 simp only[List.mem_append] at hv
 rcases hv with (hv | hv) | hv
 ·exact h v (List.mem_of_mem_take hv)
 ·exact g v hv
 ·exact h v (List.mem_of_mem_drop hv)
theorem Jf {cs vs:List Value} {o:Nat} (h:o+vs.length≤cs.length):(AL cs o vs).length=cs.length:=by
 simp[AL]; omega
theorem rJ {place:Nat→Option (Nat × Nat)} {i off:Nat} {v:Value} {cells:Array Value} {rest:List (Nat × Value)} (hp:place i=some (off,v.cells.size)) (h:off+v.cells.size≤cells.size):
  ∃ cells',cells'.toList=AL cells.toList off v.cells.toList∧Instr.fill place cells ((i,v)::rest)=Instr.fill place cells' rest:=by
 refine ⟨_,xC off v.cells cells h, ?_⟩
 simp only[Instr.fill,hp]
 rw[if_neg (by simp; omega)]
theorem lT {μ:Mu} {T:TypeId} {fs:Array Field} (hT:P.underlying T=some (.struct fs)) (place:Nat→Option (Nat × Nat))
  (hp:∀ (i:Nat) (x:Field),fs[i]?=some x → ∀ s,IW P x.type=some s→place i=some (x.offset,s)):
  ∀ (ps ps':List (Nat × Value)) (cs:List Value) (cs':Array Value) (out:List Value),RPs μ ps ps'→KE μ cs cs'.toList→(∀ v ∈ cs,v.oneCell'=true)→pj P T ps cs=some out →
   ∃ out',Instr.fill place cs' ps'=some out'∧KE μ out out'.toList∧(∀ v ∈ out,v.oneCell'=true)
 | _,_,cs,cs',out,.nil,hc,hl,h=>by
   simp[pj] at h; subst h
   exact ⟨cs',rfl,hc,hl⟩
 | _,_,cs,cs',out,.cons (i:=i) (v:=v) (v':=v') hv ht,hc,hl,h=>by
   simp only[pj] at h
   split at h
   ·rename_i o t hf
    split at h
    ·rename_i hsz
     obtain ⟨hsz,hfit,htup⟩:=hsz
     obtain ⟨fs',x,hd,hx,ho,htt⟩:=Z3 hf
     rw[hT] at hd; cases hd
     simp only at ho htt
     subst ho; subst htt
     have hpl:=hp i x hx _ hsz
     obtain ⟨hv1,hv2,hv3⟩:=L5 hv htup
     have hlen:v'.cells.size=v.cells.size:=by have:=hv1.length; simp at this; omega
     have hcl:=hc.length
     rw[← hlen] at hpl
     obtain ⟨cells',hc',hfill⟩:=rJ (rest:=_) hpl (cells:=cs') (by simp at hcl; omega)
     obtain ⟨out',h1,h2,h3⟩:=lT hT place hp _ _ _ cells' out ht (by rw[hc']; exact hc.AL hv1 _) (X3 hl hv2) h
     exact ⟨out',by rw[hfill]; exact h1,h2,h3⟩
    ·cases h
   ·cases h
theorem cn {μ:Mu} {s:Nat}:
  ∀ (ps ps':List (Nat × Value)) (cs:List Value) (cs':Array Value) (out:List Value),RPs μ ps ps'→KE μ cs cs'.toList→(∀ v ∈ cs,v.oneCell'=true)→kj s ps cs=some out →
   ∃ out',Instr.fill (fun i=>some (i*s,s)) cs' ps'=some out'∧KE μ out out'.toList∧(∀ v ∈ out,v.oneCell'=true)∧out.length=cs.length
 | _,_,cs,cs',out,.nil,hc,hl,h=>by
   simp[kj] at h; subst h
   exact ⟨cs',rfl,hc,hl,rfl⟩
 | _,_,cs,cs',out,.cons (i:=i) (v:=v) (v':=v') hv ht,hc,hl,h=>by
   simp only[kj] at h
   split at h
   ·rename_i hsz
    obtain ⟨hsz,hfit,htup⟩:=hsz
    obtain ⟨hv1,hv2,hv3⟩:=L5 hv htup
    have hlen:v'.cells.size=v.cells.size:=by have:=hv1.length; simp at this; omega
    have hcl:=hc.length
    obtain ⟨cells',hc',hfill⟩:=rJ (place:=fun i=>some (i*s,s)) (rest:=_) (i:=i) (off:=i*s) (v:=v') (cells:=cs') (by simp[hlen,hsz]) (by simp at hcl; omega)
    obtain ⟨out',h1,h2,h3,h4⟩:=cn _ _ _ cells' out ht (by rw[hc']; exact hc.AL hv1 _) (X3 hl hv2) h
    exact ⟨out',by rw[hfill]; exact h1,h2,h3,by rw[h4,Jf (by simpa using hfit)]⟩
   ·cases h
theorem run_places (w:World):∀ (fs:List Field),(∀ f ∈ fs,(P.info? f.type).isSome=true) →
  (fs.mapM fun f=>(do pure (f.offset,← sizeOf f.type):Sem (Nat × Nat))).run P w = .ok (fs.map fun f=>(f.offset,(IW P f.type).getD 0)) w
 | [],_=>by simp
 | f::fs,h=>by
   obtain ⟨i,hi⟩:=Option.isSome_iff_exists.1 (h f (by simp))
   have hs:IW P f.type=some i.size:=by simp[IW,hi]
   have ih:=run_places w fs fun g hg=>h g (by simp[hg])
   simp only[List.mapM_cons,Sem.run_bind,run_sizeOf hs,Result.andThen_ok,Sem.run_pure,List.map_cons,hs,Option.getD_some,ih]
theorem Abe {T:TypeId} {parts:Array (Nat × Operand)} {call:GM} {q:Bool} {ty:TypeId} {e:Operand→Option Value} {σ:Aa} {K:Value→Aa→Option ρ} {r:ρ}
  (h:Kx P call q (.build T parts) ty e σ K=some r):∃ v,K v σ=some r ∧ ∀ (o:Oper),o.op = .build T parts→bC P o e v:=by
 simp only[Kx,Option.bind_eq_some_iff] at h
 obtain ⟨z,hz,h⟩:=h
 obtain ⟨ps,h,hps⟩:=oF h
 split at h
 ·rename_i fs hT
  split at h
  ·rename_i hall
   simp only[Option.bind_eq_some_iff] at h
   obtain ⟨cs,hcs,h⟩:=h
   refine ⟨_,h,fun o ho μ w f hf=>?_⟩
   obtain ⟨hz1,hz2⟩:=MC hz w
   have hpl:=hps μ f hf
   have hzr:RV μ z z:=.JU hz2
   obtain ⟨hzc,hzl,_⟩:=L5 hzr (hall.2)
   have hrun:=run_places (P:=P) w fs.toList (by have:=hall.1; rw[List.all_eq_true] at this; exact this)
   obtain ⟨out',h1,h2,h3⟩:=lT hT (fun i=>(fs.toList.map fun f=>(f.offset,(IW P f.type).getD 0)).toArray[i]?)
    (fun i x hx s hs=>by simp[hx,hs]) _ _ _ z.cells cs hpl hzc hzl hcs
   refine ⟨.agg out', ?_,.agg (by simpa using h2) (by simpa using h3)⟩
   have hm:(parts.map fun x=>(x.1,f x.2)).toList=parts.toList.map fun p=>(p.1,f p.2):=by simp
   have harr:(fs.mapM fun f=>(do pure (f.offset,← sizeOf f.type):Sem (Nat × Nat))).run P w = .ok (fs.toList.map fun f=>(f.offset,(IW P f.type).getD 0)).toArray w:=by
    rw[Array.mapM_eq_mapM_toList]
    simp only[Sem.run_map,hrun,Result.andThen_ok]
   simp only[execOp,ho,Instr.build,Sem.run_bind,hz1,Result.andThen_ok,run_underlying hT,harr,hm,h1,Sem.run_pure]
  ·cases h
 ·rename_i n E hT
  simp only[Option.bind_eq_some_iff] at h
  obtain ⟨s,hs,h⟩:=h
  split at h
  ·rename_i htup
   simp only[Option.bind_eq_some_iff] at h
   obtain ⟨cs,hcs,h⟩:=h
   refine ⟨_,h,fun o ho μ w f hf=>?_⟩
   obtain ⟨hz1,hz2⟩:=MC hz w
   have hpl:=hps μ f hf
   have hzr:RV μ z z:=.JU hz2
   obtain ⟨hzc,hzl,_⟩:=L5 hzr htup
   obtain ⟨out',h1,h2,h3,_⟩:=cn _ _ _ z.cells cs hpl hzc hzl hcs
   refine ⟨.agg out', ?_,.agg (by simpa using h2) (by simpa using h3)⟩
   have hm:(parts.map fun x=>(x.1,f x.2)).toList=parts.toList.map fun p=>(p.1,f p.2):=by simp
   simp only[execOp,ho,Instr.build,Sem.run_bind,hz1,Result.andThen_ok,run_underlying hT,run_sizeOf hs,hm,h1,Sem.run_pure]
  ·cases h
 ·cases h
end Go.AX
end
section
namespace Go.AX
open Go
variable {ρ:Type} {P:Program} [A9]
theorem AK {o:Oper} {f:Operand→Value} {w w':World} {v:Value} {s:Sem Value} (h:execOp f o=(do pure (.value (← s)):Sem Next)) (hs:s.run P w = .ok v w'):
  (execOp f o).run P w = .ok (.value v) w':=by
 rw[h]; simp[hs]
theorem DA {f:Operand→Value} {o:Oper} {c:Call} {b:Builtin} (ho:o.op = .call c) (hb:c.callee = .builtin b):
  ∃ cs,execOp f o=builtin b c.argTypes o.type cs (c.args.toList.map f).toArray:=by
 have:(c.args.toList.map f).toArray=c.args.map f:=by rw[← Array.toList_map,Array.toArray_toList]
 rw[this]
 unfold execOp
 rw[ho]
 refine ⟨c.args.map fun | .const _=>true | _=>false, ?_⟩
 show (do let d ← resolve f c o.type; invoke d.target d.args:Sem Next)=_
 unfold resolve
 rw[hb]
 rfl
theorem toList_eq {α:Type} {a:Array α} {l:List α} (h:a.toList=l):a=l.toArray:=by cases a; simp at h; simp[h]
theorem Yy {o:Oper} {call:GM} {q:Bool} {e:Operand→Option Value} {σ:Aa} {K:Value→Aa→Option ρ} {r:ρ} (hc:Gm P o = .pure)
  (h:Kx P call q o.op o.type e σ K=some r):∃ v,K v σ=some r∧bC P o e v:=by
 cases ho:o.op
 case build T parts=>
  rw[ho] at h
  obtain ⟨v,h1,h2⟩:=Abe h
  exact ⟨v,h1,h2 o ho⟩
 case move x=>
  rw[ho] at h
  simp only[Kx,Option.bind_eq_some_iff] at h
  obtain ⟨v,hv,h⟩:=h
  exact ⟨v,h,fun μ w f hf=>⟨f x,by simp[execOp,ho],hf x v hv⟩⟩
 case assign x=>
  rw[ho] at h
  simp only[Kx,Option.bind_eq_some_iff] at h
  obtain ⟨v,hv,h⟩:=h
  exact ⟨v,h,fun μ w f hf=>⟨f x,by simp[execOp,ho],hf x v hv⟩⟩
 case pick c a b=>
  rw[ho] at h
  simp only[Kx,Option.bind_eq_some_iff] at h
  obtain ⟨v,hv,h⟩:=h
  split at h
  ·simp only[Option.bind_eq_some_iff] at h
   obtain ⟨u,hu,h⟩:=h
   refine ⟨u,h,fun μ w f hf=>⟨f a, ?_,hf a u hu⟩⟩
   have:=hf c _ hv
   cases hfc:f c <;> rw[hfc] at this <;> cases this
   simp[execOp,ho,hfc,asBool]
  ·simp only[Option.bind_eq_some_iff] at h
   obtain ⟨u,hu,h⟩:=h
   refine ⟨u,h,fun μ w f hf=>⟨f b, ?_,hf b u hu⟩⟩
   have:=hf c _ hv
   cases hfc:f c <;> rw[hfc] at this <;> cases this
   simp[execOp,ho,hfc,asBool]
  ·cases h
 case nilCheck x=>
  rw[ho] at h
  simp only[Kx,Option.bind_eq_some_iff] at h
  obtain ⟨v,hv,h⟩:=h
  unfold Aa9 at h
  split at h
  ·simp only[Option.bind_eq_some_iff] at h
   obtain ⟨a,ha,h⟩:=h
   subst ha
   refine ⟨_,h,fun μ w f hf=>?_⟩
   have hr:=hf x _ hv
   refine ⟨f x, ?_,hr⟩
   generalize hfx:f x=fx at hr
   cases hr
   simp[execOp,ho,hfx]
  ·refine ⟨_,h,fun μ w f hf=>?_⟩
   have hr:=hf x _ hv
   refine ⟨f x, ?_,hr⟩
   generalize hfx:f x=fx at hr
   cases hr
   simp[execOp,ho,hfx]
  ·refine ⟨_,h,fun μ w f hf=>?_⟩
   have hr:=hf x _ hv
   refine ⟨f x, ?_,hr⟩
   generalize hfx:f x=fx at hr
   cases hr
   simp[execOp,ho,hfx]
  ·cases h
 case binOp op T x y yT=>
  rw[ho] at h
  simp only[Kx,Option.bind_eq_some_iff] at h
  obtain ⟨a,ha,b,hb,h⟩:=h
  obtain ⟨v,h1,h2,h3⟩:=Aaf h
  refine ⟨v,h1,fun μ w f hf=>⟨v, ?_,.JH h2⟩⟩
  exact AK (by simp only[execOp,ho] <;> rfl) (h3 μ _ _ (hf x a ha) (hf y b hb) w x y)
 case unOp op T x=>
  rw[ho] at h
  simp only[Kx,Option.bind_eq_some_iff] at h
  obtain ⟨a,ha,h⟩:=h
  obtain ⟨v,h1,h2,h3⟩:=Afh (P:=P) h
  exact ⟨v,h1,fun μ w f hf=>⟨v,AK (by simp only[execOp,ho] <;> rfl) (h3 μ _ (hf x a ha) w),.JH h2⟩⟩
 case convert s d x=>
  rw[ho] at h
  simp only[Kx,Option.bind_eq_some_iff] at h
  obtain ⟨a,ha,h⟩:=h
  split at h
  ·rename_i hs hd
   refine ⟨_,h,fun μ w f hf=>⟨_, ?_,.int _ _⟩⟩
   have hr:=hf x _ ha
   generalize hfx:f x=fx at hr
   cases hr
   refine AK (by simp only[execOp,ho] <;> rfl) ?_
   simp only[hfx,convert,Sem.run_bind,run_underlying hs,run_underlying hd,Result.andThen_ok,Conv.intToInt,Sem.run_pure]
  ·cases h
 case makeInterface T x=>
  rw[ho] at h
  simp only[Kx,Option.bind_eq_some_iff] at h
  obtain ⟨a,ha,h⟩:=h
  split at h
  ·cases h
  ·rename_i d hn hd
   refine ⟨_,h,fun μ w f hf=>⟨_, ?_,.iface (hf x a ha)⟩⟩
   refine AK (by simp only[execOp,ho] <;> rfl) ?_
   exact run_makeInterface w T _ (by unfold Program.concrete; rw[hd]; cases d <;> first | rfl | exact absurd rfl (hn _))
  ·cases h
 case makeFunc fn first cap=>
  rw[ho] at h
  simp only[Kx] at h
  split at h
  ·cases h
  rename_i hny
  obtain ⟨vs,h,h1⟩:=QA h
  obtain ⟨us,h,h2⟩:=QA h
  refine ⟨_,h,fun μ w f hf=>⟨_,AK (by simp only[execOp,ho] <;> rfl) rfl, ?_⟩⟩
  exact .func (fun l hl=>hny l hl) (by simpa using h1 μ f hf) (by simpa using h2 μ f hf)
 case fieldAddr T x i=>
  rw[ho] at h
  simp only[Kx,Option.bind_eq_some_iff] at h
  obtain ⟨ot,hot,v,hv,h⟩:=h
  split at h
  ·simp only[Option.bind_eq_some_iff] at h
   obtain ⟨a,ha,s,hs,h⟩:=h
   split at h
   ·cases h
   ·rename_i hs0
    subst ha
    obtain ⟨fs,fx,hd,hfx,h1,h2⟩:=Z3 hot
    refine ⟨_,h,fun μ w f hf=>?_⟩
    have hr:=hf x _ hv
    generalize hfx':f x=fx' at hr
    cases hr with
    | @ptr _ k hk hsp=>
      refine ⟨.pointer (some ⟨k.b,k.o+(a.off+ot.1),none⟩),AK (by simp only[execOp,ho] <;> rfl) ?_,RV.ptr (a:=⟨a.block,a.off+ot.1,none⟩) hk rfl⟩
      rw[hfx',← Nat.add_assoc]
      simp only[Instr.fieldAt,Sem.run_bind,run_underlying hd,Result.andThen_ok,hfx,Instr.sureAddr,Sem.run_pure,fieldPlace,h2,run_sizeOf hs,Sem.run_ite,if_neg hs0,NM,h1]
  ·cases h
 case field T x i=>
  rw[ho] at h
  simp only[Kx,Option.bind_eq_some_iff] at h
  obtain ⟨ot,hot,v,hv,h⟩:=h
  obtain ⟨fs,fx,hd,hfx,h1,h2⟩:=Z3 hot
  split at h
  ·rename_i vs
   cases hb:NB P ot.2 with
   | true=>
     rw[hb] at h
     simp only[cond_true,Option.bind_eq_some_iff] at h
     obtain ⟨s,hs,h⟩:=h
     refine ⟨_,h,fun μ w f hf=>?_⟩
     have hr:=hf x _ hv
     generalize hfx':f x=fx' at hr
     cases hr with
     | agg hr hl=>
       rename_i vs'
       obtain ⟨d,hdt⟩:∃ d,P.underlying ot.2=some d:=by
        unfold NB at hb; cases hq:P.underlying ot.2 with
        | none=>simp[hq] at hb
        | some d=>exact ⟨d,rfl⟩
       refine ⟨.agg (vs'.extract ot.1 (ot.1+s)),AK (by simp only[execOp,ho] <;> rfl) ?_,.agg ?_ ?_⟩
       ·rw[hfx']
        simp only[Instr.field,Sem.run_bind,run_underlying hd,Result.andThen_ok,hfx,asAgg,Sem.run_pure,part,h2,PL hdt,hb,if_true,run_sizeOf hs,h1]
       ·have:=(hr.drop ot.1).take s
        simpa [List.extract_eq_take_drop] using this
       ·intro y hy
        simp only at hy
        exact hl y (List.mem_of_mem_drop (List.mem_of_mem_take hy))
   | false=>
     rw[hb] at h
     simp only[cond_false,Option.bind_eq_some_iff] at h
     obtain ⟨d,hq,u,hu,h⟩:=h
     refine ⟨u,h,fun μ w f hf=>?_⟩
     have hr:=hf x _ hv
     generalize hfx':f x=fx' at hr
     cases hr with
     | agg hr hl=>
       rename_i vs'
       obtain ⟨u',hu',hru⟩:=hr.get _ _ hu
       refine ⟨u',AK (by simp only[execOp,ho] <;> rfl) ?_,hru⟩
       rw[hfx']
       have hu'':vs'[ot.1]?=some u':=by simpa using hu'
       simp only[Instr.field,Sem.run_bind,run_underlying hd,Result.andThen_ok,hfx,asAgg,Sem.run_pure,part,h2,PL hq,hb,Bool.false_eq_true,if_false,h1,hu'']
  ·cases h
 case index T x i=>
  rw[ho] at h
  simp only[Kx,Option.bind_eq_some_iff] at h
  obtain ⟨⟨len,E⟩,hE,v,hv,u,hu,h⟩:=h
  have hT:=oo hE
  split at h
  ·rename_i vs k n
   cases hb:NB P E with
   | true=>rw[hb] at h; cases h
   | false=>
     rw[hb] at h
     simp only[cond_false] at h
     split at h
     ·rename_i hn
      simp only[Option.bind_eq_some_iff] at h
      obtain ⟨d,hq,s,hs,y,hy,h⟩:=h
      replace h:=bM h
      refine ⟨y,h,fun μ w f hf=>?_⟩
      have hr:=hf x _ hv
      have hi:=hf i _ hu
      generalize hfx:f x=fx at hr
      generalize hfi:f i=fi at hi
      cases hi
      cases hr with
      | agg hr hl=>
        rename_i vs'
        obtain ⟨y',hy',hry⟩:=hr.get _ _ hy
        have hy'':vs'[n.toNat*s]?=some y':=by simpa using hy'
        refine ⟨y',AK (by simp only[execOp,ho] <;> rfl) ?_,hry⟩
        rw[hfx,hfi]
        simp only[Instr.index,asIntOf,Sem.run_bind,Sem.run_pure,Result.andThen_ok,run_underlying hT]
        rw[if_pos hn]
        simp only[Sem.run_bind,run_sizeOf hs,Result.andThen_ok,part,PL hq,hb,Bool.false_eq_true,if_false,hy'',Sem.run_pure]
     ·cases h
  ·cases h
 case indexAddr T x i=>
  rw[ho] at h
  cases hA:uW P T with
  | some le=>
    obtain ⟨len,E⟩:=le
    simp only[Kx,hA,Option.bind_eq_some_iff] at h
    obtain ⟨s,hs,v,hv,u,hu,h⟩:=h
    have hT:=oo hA
    split at h
    ·rename_i a k n
     simp only[Option.bind_eq_some_iff] at h
     obtain ⟨a',ha,h⟩:=h
     subst ha
     split at h
     ·rename_i hn
      refine ⟨_,h,fun μ w f hf=>?_⟩
      have hr:=hf x _ hv
      have hi:=hf i _ hu
      generalize hfx:f x=fx at hr
      generalize hfi:f i=fi at hi
      cases hi
      cases hr with
      | @ptr _ k' hk hsp=>
        refine ⟨.pointer (some ⟨k'.b,k'.o+(a'.off+n.toNat*s),none⟩),AK (by simp only[execOp,ho] <;> rfl) ?_,RV.ptr (a:=⟨a'.block,a'.off+n.toNat*s,none⟩) hk rfl⟩
        rw[hfx,hfi,← Nat.add_assoc]
        simp only[Instr.indexAt,asIntOf,Sem.run_bind,Sem.run_pure,Result.andThen_ok,run_underlying hT,Instr.sureAddr]
        rw[if_pos hn]
        simp only[Sem.run_bind,run_sizeOf hs,Result.andThen_ok,Sem.run_pure,NM]
     ·cases h
    ·cases h
  | none=>
  simp only[Kx,hA,Option.bind_eq_some_iff] at h
  obtain ⟨E,hE,s,hs,v,hv,u,hu,h⟩:=h
  have hT:=Le hE
  split at h
  ·rename_i a len cap k n
   split at h
   ·rename_i hn
    simp only[Option.bind_eq_some_iff] at h
    obtain ⟨a',ha,h⟩:=h
    subst ha
    refine ⟨_,h,fun μ w f hf=>?_⟩
    have hr:=hf x _ hv
    have hi:=hf i _ hu
    generalize hfx:f x=fx at hr
    generalize hfi:f i=fi at hi
    cases hi
    cases hr with
    | @slice _ k' _ _ _ hk hsp hl hc hm=>
      refine ⟨.pointer (some ⟨k'.b,k'.o+(a'.off+n.toNat*s),none⟩),AK (by simp only[execOp,ho] <;> rfl) ?_,RV.ptr (a:=⟨a'.block,a'.off+n.toNat*s,none⟩) hk rfl⟩
      rw[hfx,hfi,← Nat.add_assoc]
      simp only[Instr.indexAt,asIntOf,Sem.run_bind,Sem.run_pure,Result.andThen_ok,run_underlying hT]
      rw[if_pos hn]
      simp only[Sem.run_bind,run_sizeOf hs,Result.andThen_ok,Sem.run_pure,NM]
    | sliceEnd hk hsp hm=>omega
    | sliceZ y hz=>omega
   ·cases h
  ·cases h
 case extract x i=>
  rw[ho] at h
  simp only[Kx,Option.bind_eq_some_iff] at h
  obtain ⟨v,hv,h⟩:=h
  split at h
  ·simp only[Option.bind_eq_some_iff] at h
   obtain ⟨u,hu,h⟩:=h
   refine ⟨u,h,fun μ w f hf=>?_⟩
   have hr:=hf x _ hv
   generalize hfx:f x=fx at hr
   cases hr with
   | tuple hr=>
     rename_i vs'
     obtain ⟨u',hu',hru⟩:=hr.get _ _ hu
     refine ⟨u',AK (by simp only[execOp,ho] <;> rfl) ?_,hru⟩
     have hu'':vs'[i]?=some u':=by simpa using hu'
     simp only[hfx,Instr.extract,hu'',Sem.run_pure]
  ·cases h
 case call c=>
  rw[ho] at h
  simp only[Gm,ho] at hc
  split at hc
  ·rename_i b hb
   simp only[Kx,hb] at h
   obtain ⟨vs,h,hvs⟩:=QA h
   cases b <;> simp only[q8] at hc <;> first
    | (cases hc; done)
    | skip
   case len=>
    cases hm:c8 P c.argTypes.toList <;> rw[hm] at hc <;> simp only[q8] at hc
    ·simp only[Vl,Ajc] at h
     split at h
     rotate_left
     ·cases h
     rename_i t v hts
     split at h
     ·rename_i n _ hd
      refine ⟨_,h,fun μ w f hf=>?_⟩
      obtain ⟨cs,hex⟩:=DA (f:=f) ho hb
      have hr:=hvs μ f hf
      generalize c.args.toList.map f=l at hr hex
      cases hr with
      | cons h1 h2=>
        cases h2
        refine ⟨_, ?_,.int _ _⟩
        rw[hex,toList_eq hts]
        cases h1 <;> simp[builtin,Builtin.len_,run_underlying hd,goInt]
     ·rename_i s hd
      refine ⟨_,h,fun μ w f hf=>?_⟩
      obtain ⟨cs,hex⟩:=DA (f:=f) ho hb
      have hr:=hvs μ f hf
      generalize c.args.toList.map f=l at hr hex
      cases hr with
      | cons h1 h2=>
        cases h2
        refine ⟨_, ?_,.int _ _⟩
        rw[hex,toList_eq hts]
        cases h1 <;> simp[builtin,Builtin.len_,run_underlying hd,goInt]
     ·rename_i hd
      rw[hts] at hm
      simp[c8,hd] at hm
     ·cases h
    ·cases hc
   case max=>
    simp only[Vl,Ako] at h
    split at h
    rotate_left
    ·cases h
    rename_i k x k' y
    split at h
    ·rename_i hk; subst hk
     refine ⟨_,h,fun μ w f hf=>?_⟩
     obtain ⟨cs,hex⟩:=DA (f:=f) ho hb
     have hr:=hvs μ f hf
     generalize c.args.toList.map f=l at hr hex
     cases hr with
     | cons h1 h2=>
       cases h2 with
       | cons h2 h3=>
         cases h3; cases h1; cases h2
         refine ⟨_, ?_,.int _ _⟩
         rw[hex]
         simp[builtin,Builtin.max_,Builtin.max2]
    ·cases h
   case min=>
    simp only[Vl,Akp] at h
    split at h
    rotate_left
    ·cases h
    rename_i k x k' y
    split at h
    ·rename_i hk; subst hk
     refine ⟨_,h,fun μ w f hf=>?_⟩
     obtain ⟨cs,hex⟩:=DA (f:=f) ho hb
     have hr:=hvs μ f hf
     generalize c.args.toList.map f=l at hr hex
     cases hr with
     | cons h1 h2=>
       cases h2 with
       | cons h2 h3=>
         cases h3; cases h1; cases h2
         refine ⟨_, ?_,.int _ _⟩
         rw[hex]
         simp[builtin,Builtin.min_,Builtin.min2]
    ·cases h
  ·cases hc
 all_goals (rw[ho] at h; first | (simp only[Kx] at h; cases h; done) | (simp[Gm,ho] at hc; done))
end Go.AX
end
