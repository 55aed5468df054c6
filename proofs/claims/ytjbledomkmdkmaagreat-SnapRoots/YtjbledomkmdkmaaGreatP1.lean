/- The relation between the abstract memory and the world.; The operations that only compute.; The operations that only compute: one by one.; The operati -/
import Derived.Test.YtjbledomkmdkmaaGreatP0
set_option linter.unusedVariables false
set_option linter.unusedSimpArgs false
set_option linter.unusedSectionVars false
namespace Go.AX
open Go
noncomputable section
section
theorem cq {ρ:Type} {f:FuncId} {m:Option ρ} {r:ρ} (h:(bif Nat.beq f YF then none else m)=some r):f≠YF/\m=some r:=by
 cases hb:Nat.beq f YF with
 | true=>rw[hb] at h; cases h
 | false=>rw[hb] at h; exact ⟨fun he=>(by rw[he] at hb; cases hb),h⟩
structure Ww where
 b:Nat
 o:Nat
 s:Nat
 n:Nat
 m:Nat
abbrev Mu:=Nat->Option Ww
mutual
inductive RV (Z:Mu):Value->Value->Prop
 | bool (b:Bool):RV Z (.bool b) (.bool b)
 | int (k:IntKind) (n:Int):RV Z (.int k n) (.int k n)
 | string (s:ByteArray):RV Z (.string s) (.string s)
 | ptrNil:RV Z (.pointer none) (.pointer none)
 | ptr {a:Addr} {k:Ww} (h:Z a.block=some k) (hs:a.spot=none):RV Z (.pointer (some a)) (.pointer (some ⟨k.b,k.o+a.off,none⟩))
 | sliceNil:RV Z (.slice none 0 0) (.slice none 0 0)
 | sliceZ {a:Addr} {z:Nat} (x:Addr) (hz:a.spot=some z):RV Z (.slice (some a) 0 0) (.slice (some x) 0 0)
 | slice {a:Addr} {k:Ww} {l c c':Nat} (h:Z a.block=some k) (hs:a.spot=none) (hl:l<=c) (hc:c<=c') (hm:a.off+c'*k.s<=k.m):RV Z (.slice (some a) l c) (.slice (some ⟨k.b,k.o+a.off,none⟩) l c')
 | sliceEnd {a:Addr} {k:Ww} {o c':Nat} (h:Z a.block=some k) (hs:a.spot=none) (hm:o+c'*k.s<=k.m):
   RV Z (.slice (some a) 0 0) (.slice (some ⟨k.b,k.o+o,none⟩) 0 c')
 | mapNil:RV Z (.map none) (.map none)
 | map {r:Nat} {k:Ww} (h:Z r=some k):RV Z (.map (some r)) (.map (some k.b))
 | nilFunc:RV Z .nilFunc .nilFunc
 | nilIface:RV Z .nilIface .nilIface
 | func {f:Fn} {a a' b b':Array Value} (hf:∀ l,f ≠ .yield l) (ha:It Z a.toList a'.toList) (hb:It Z b.toList b'.toList):RV Z (.func f a b) (.func f a' b')
 | yield {h:Nat} {k:Ww} (hh:Z h=some k):RV Z (.func (.yield h) #[] #[]) (.func (.yield k.b) #[] #[])
 | iface {t:TypeId} {v v':Value} (h:RV Z v v'):RV Z (.iface t v) (.iface t v')
 | agg {a a':Array Value} (h:It Z a.toList a'.toList) (hl:∀ v ∈ a.toList,v.oneCell'=true):RV Z (.agg a) (.agg a')
 | tuple {a a':Array Value} (h:It Z a.toList a'.toList):RV Z (.tuple a) (.tuple a')
inductive It (Z:Mu):List Value->List Value->Prop
 | nil:It Z [] []
 | cons {v v':Value} {vs vs':List Value} (h:RV Z v v') (t:It Z vs vs'):It Z (v::vs) (v'::vs')
end
def Mu.le (Z Z':Mu):Prop:=∀ h k,Z h=some k->Z' h=some k
theorem Mu.le_refl (Z:Mu):Z.le Z:=fun _ _ h=>h
theorem Mu.le_trans {a b c:Mu} (h:a.le b) (g:b.le c):a.le c:=fun _ _ e=>g _ _ (h _ _ e)
mutual
theorem RV.mono {Z Z':Mu} (hm:Z.le Z'):∀ {v v':Value},RV Z v v'->RV Z' v v'
 | _,_,.bool b=>.bool b
 | _,_,.int k n=>.int k n
 | _,_,.string s=>.string s
 | _,_,.ptrNil=>.ptrNil
 | _,_,.ptr h hs=>.ptr (hm _ _ h) hs
 | _,_,.sliceNil=>.sliceNil
 | _,_,.sliceZ x hz=>.sliceZ x hz
 | _,_,.slice h hs hl hc hm'=>.slice (hm _ _ h) hs hl hc hm'
 | _,_,.sliceEnd h hs hm'=>.sliceEnd (hm _ _ h) hs hm'
 | _,_,.mapNil=>.mapNil
 | _,_,.map h=>.map (hm _ _ h)
 | _,_,.nilFunc=>.nilFunc
 | _,_,.nilIface=>.nilIface
 | _,_,.func hf ha hb=>.func hf (It.mono hm ha) (It.mono hm hb)
 | _,_,.yield hh=>.yield (hm _ _ hh)
 | _,_,.iface h=>.iface (RV.mono hm h)
 | _,_,.agg h hl=>.agg (It.mono hm h) hl
 | _,_,.tuple h=>.tuple (It.mono hm h)
theorem It.mono {Z Z':Mu} (hm:Z.le Z'):∀ {v v':List Value},It Z v v'->It Z' v v'
 | _,_,.nil=>.nil
 | _,_,.cons h t=>.cons (RV.mono hm h) (It.mono hm t)
end
theorem It.length {Z:Mu}:∀ {v v':List Value},It Z v v'->v.length=v'.length
 | _,_,.nil=>rfl
 | _,_,.cons _ t=>by simp[It.length t]
theorem It.get {Z:Mu}:∀ {v v':List Value},It Z v v' -> ∀ (i:Nat) (x:Value),v[i]?=some x -> ∃ x',v'[i]?=some x'/\RV Z x x'
 | _,_,.nil,i,x,h=>by simp at h
 | _,_,.cons h t,0,x,hx=>by simp at hx; subst hx; exact ⟨_,by simp,h⟩
 | _,_,.cons h t,i+1,x,hx=>by simpa using It.get t i x (by simpa using hx)
theorem It.append {Z:Mu}:∀ {v v' u u':List Value},It Z v v'->It Z u u'->It Z (v++u) (v'++u')
 | _,_,_,_,.nil,h=>h
 | _,_,_,_,.cons h t,g=>.cons h (It.append t g)
theorem It.iR {Z:Mu}:∀ {v v':List Value},v.length=v'.length->(∀ (i:Nat) x x',v[i]?=some x->v'[i]?=some x'->RV Z x x')->It Z v v'
 | [],[],_,_=>.nil
 | [],_::_,h,_=>by simp at h
 | _::_,[],h,_=>by simp at h
 | x::xs,y::ys,h,g=>.cons (g 0 x y (by simp) (by simp)) (It.iR (by simpa using h) fun i a b ha hb=>g (i+1) a b (by simpa using ha) (by simpa using hb))
theorem It.take {Z:Mu}:∀ {v v':List Value} (n:Nat),It Z v v'->It Z (v.take n) (v'.take n)
 | _,_,_,.nil=>by simp; exact .nil
 | _,_,0,.cons _ _=>by simp; exact .nil
 | _,_,n+1,.cons h t=>by simp; exact .cons h (It.take n t)
theorem It.drop {Z:Mu}:∀ {v v':List Value} (n:Nat),It Z v v'->It Z (v.drop n) (v'.drop n)
 | _,_,_,.nil=>by simp; exact .nil
 | _,_,0,.cons h t=>by simp; exact .cons h t
 | _,_,n+1,.cons h t=>by simp; exact It.drop n t
theorem It.rep {Z:Mu} {z z':List Value} (h:It Z z z'):∀ n:Nat,It Z (rep n z) (rep n z')
 | 0=>by simp[AX.rep]; exact .nil
 | n+1=>by
   have e:∀ y:List Value,AX.rep (n+1) y=y++AX.rep n y:=fun y=>by simp[AX.rep,zU]
   rw[e,e]; exact h.append (It.rep h n)
theorem RV.leaf {Z:Mu} {v v':Value} (h:RV Z v v'):v'.oneCell'=v.oneCell':=by cases h <;> rfl
theorem It.leaf {Z:Mu}:∀ {v v':List Value},It Z v v'->(∀ x ∈ v,x.oneCell'=true) -> ∀ x ∈ v',x.oneCell'=true
 | _,_,.nil,_,x,hx=>by simp at hx
 | _,_,.cons h t,g,x,hx=>by
   rcases yL.1 hx with rfl | hx
   ·rw[h.leaf]; exact g _ (by simp)
   ·exact It.leaf t (fun y hy=>g y (by simp[hy])) x hx
theorem RV.H9 {Z:Mu} {v:Value} (h:H9 v=true):RV Z v v:=by
 unfold AX.H9 at h;split at h
 ·exact .bool _
 ·exact .int _ _
 ·exact .string _
 ·exact .ptrNil
 ·exact .sliceNil
 ·exact .mapNil
 ·exact .nilFunc
 ·exact .nilIface
 ·cases h
 ·rename_i f a b hne;simp at h;obtain ⟨ha,hb⟩:=h;refine .func (fun l hl=>hne l hl) ?_ ?_
  ·simp[ha]; exact .nil
  ·simp[hb]; exact .nil
 ·simp at h
theorem iM {v:Value} (h:H9 v=true):v.oneCell'=true:=by
 cases v <;> first | rfl | simp[H9] at h
theorem It.H9 {Z:Mu}:∀ {vs:List Value},vs.all AX.H9=true->It Z vs vs
 | [],_=>.nil
 | v::vs,h=>by
   simp at h;exact .cons (.H9 h.1) (It.H9 (by simpa using h.2))
theorem RV.HE {Z:Mu} {v:Value} (h:HE v=true):RV Z v v:=by
 unfold AX.HE at h;split at h
 ·exact .agg (.H9 h) fun x hx=>iM (by simp only[Aay] at h; exact h x hx)
 ·exact .tuple (.H9 h)
 ·exact .H9 h
inductive Tx (Z:Mu):List (Int × Value)->List MapEntry->Prop
 | nil:Tx Z [] []
 | cons {k:Int} {v:Value} {e:MapEntry} {es:List (Int × Value)} {es':List MapEntry} (hk:e.key = .int .i64 k) (hv:RV Z v e.val) (t:Tx Z es es'):Tx Z ((k,v)::es) (e::es')
theorem Tx.mono {Z Z':Mu} (hm:Z.le Z'):∀ {v:List (Int × Value)} {v':List MapEntry},Tx Z v v'->Tx Z' v v'
 | _,_,.nil=>.nil
 | _,_,.cons hk hv t=>.cons hk (hv.mono hm) (Tx.mono hm t)
def Kx (Z:Mu) (regs:Bc) (tmps:Array Value):Prop:=
 regs.length<=tmps.size /\ ∀ (t:Nat) (v:Value),regs.getD t none=some v -> ∃ v',tmps[t]?=some v'/\RV Z v v'
theorem Kx.mono {Z Z':Mu} {regs:Bc} {tmps:Array Value} (h:Kx Z regs tmps) (hm:Z.le Z'):Kx Z' regs tmps:=
 ⟨h.1,fun t v ht=>let ⟨v',h1,h2⟩:=h.2 t v ht; ⟨v',h1,h2.mono hm⟩⟩
def Uq:Cc->Option Code
 | .normal=>none
 | .exit id=>some (.exit id)
 | .ret=>some .ret
def xv:ti->Loop->Prop
 | .ready,r=>r.state = .ready/\r.pending=none
 | .busy,r=>r.state = .busy
 | .done x,r=>r.state = .done/\r.pending=Uq x
def vl (P:Program) (Z:Mu) (f:FuncId) (st:ti) (regs:Bc) (r:Loop):Prop:=
 (∃ F c,P.funcs[f]?=some F/\F.body=some c/\Ch c=some (r.params,r.assign,r.body))/\Kx Z regs r.tmps/\xv st r
def ZK (P:Program) (Z:Mu) (o:Au) (k:Ww) (x:Option Obj):Prop:=
 match o with
 | .cells vs T rw=>∃ c T' fz,x=some (.cells c T' fz)/\vs.length=k.n/\k.n<=k.m/\k.o+k.m<=c.size/\k.s=P.cellsOf T/\(rw=true->fz=(0,0)) /\
   (∀ v ∈ vs,v.oneCell'=true)/\It Z vs ((c.toList.drop k.o).take k.n)
 | .map es=>∃ entries clock,x=some (.map entries clock)/\Tx Z es entries.toList
 | .loop f st regs=>∃ r,x=some (.loop r)/\vl P Z f st regs r
 | .dead=>True
def alive (J:Aa) (h:Nat):Prop:=∃ o,J[h]?=some o/\o ≠ .dead
def Az (J:Aa) (h:Nat):Prop:=
 match J[h]? with
 | some (.cells _ _ true) | some (.map _) | some (.loop _ _ _)=>True
 | _=>False
structure R (P:Program) (Z:Mu) (J:Aa) (w:World):Prop where
 obj:∀ h o k,J[h]?=some o->Z h=some k->ZK P Z o k w.heap[k.b]?
 lt:∀ h k,Z h=some k->k.b<w.heap.size
 inj:∀ h h' k k',Z h=some k->Z h'=some k'->alive J h->alive J h'->Az J h\/Az J h'->k.b=k'.b->h=h'
def GL (Z:Mu) (lo hi:Nat):Prop:=∀ h,lo<=h->h<hi->Z h=none
structure Step (Z:Mu) (J:Aa) (w:World) (Z':Mu) (J':Aa) (w':World):Prop where
 len:J.length<=J'.length
 mu:∀ h,(h<J.length\/J'.length<=h)->Z' h=Z h
 wr:∀ h,h<J.length->Az J' h->Az J h
 new:∀ h k,J.length<=h->h<J'.length->Z' h=some k->w.heap.size<=k.b \/ ∃ h0 k0,h0<J.length/\Z h0=some k0/\k0.b=k.b/\Az J h0
 size:w.heap.size<=w'.heap.size
 tape:w'.tape=w.tape
 os:w'.os=w.os
 output:w'.output=w.output
 frame:∀ b,b<w.heap.size->(∀ h k,h<J.length->Z h=some k->k.b=b->¬ Az J h)->w'.heap[b]?=w.heap[b]?
theorem Step.refl (Z:Mu) (J:Aa) (w:World):Step Z J w Z J w:=
 ⟨yj _,fun _ _=>rfl,fun _ _ h=>h,fun h k h1 h2=>absurd h2 (by omega),yj _,rfl,rfl,rfl,fun _ _ _=>rfl⟩
theorem Step.le {Z Z':Mu} {J J':Aa} {w w':World} (s:Step Z J w Z' J' w') (f:GL Z J.length J'.length):Z.le Z':=by
 intro h k hk;by_cases h1:h<J.length\/J'.length<=h
 ·rw[s.mu h h1]; exact hk
 ·rw[f h (by omega) (by omega)] at hk; cases hk
theorem GL.sub {Z:Mu} {a b c d:Nat} (h:GL Z a b) (h1:a<=c) (h2:d<=b):GL Z c d:=fun x hx hy=>h x (by omega) (by omega)
theorem GL.step {Z Z':Mu} {J J':Aa} {w w':World} {hi:Nat} (s:Step Z J w Z' J' w') (f:GL Z J.length hi):GL Z' J'.length hi:=by
 intro h h1 h2;rw[s.mu h (.inr h1)];exact f h (zj s.len h1) h2
theorem Step.trans {Z Z' Z'':Mu} {J J' J'':Aa} {w w' w'':World} (s:Step Z J w Z' J' w') (t:Step Z' J' w' Z'' J'' w''):Step Z J w Z'' J'' w'':=by
 refine ⟨zj s.len t.len, ?_, ?_, ?_,zj s.size t.size,t.tape.trans s.tape,t.os.trans s.os,t.output.trans s.output, ?_⟩
 ·intro h hh;have l1:=s.len; have l2:=t.len;rw[t.mu h (by omega),s.mu h (by omega)]
 ·intro h hh hw;exact s.wr h hh (t.wr h (yG hh s.len) hw)
 ·intro h k h1 h2 hk;by_cases hlt:h<J'.length
  ·rw[t.mu h (.inl hlt)] at hk;exact s.new h k h1 hlt hk
  ·rcases t.new h k (by omega) h2 hk with hb | ⟨h0,k0,hh0,hk0,hb,hw⟩
   ·exact .inl (zj s.size hb)
   ·by_cases h0lt:h0<J.length
    ·rw[s.mu h0 (.inl h0lt)] at hk0;exact .inr ⟨h0,k0,h0lt,hk0,hb,s.wr h0 h0lt hw⟩
    ·rcases s.new h0 k0 (by omega) hh0 hk0 with hb' | ⟨h1',k1,hh1,hk1,hb1,hw1⟩
     ·exact .inl (by omega)
     ·exact .inr ⟨h1',k1,hh1,hk1,hb1.trans hb,hw1⟩
 ·intro b hb hn;rw[t.frame b (yG hb s.size) ?_,s.frame b hb hn];intro h k hh hk hkb hw;by_cases hlt:h<J.length
  ·rw[s.mu h (.inl hlt)] at hk;exact hn h k hlt hk hkb (s.wr h hlt hw)
  ·rcases s.new h k (by omega) hh hk with hb' | ⟨h0,k0,hh0,hk0,hb0,hw0⟩
   ·omega
   ·exact hn h0 k0 hh0 hk0 (hb0.trans hkb) hw0
theorem R.drew {P:Program} {Z:Mu} {J:Aa} {w:World} (h:R P Z J w):R P Z J w.drew:=⟨h.obj,h.lt,h.inj⟩
theorem Step.drew (Z:Mu) (J:Aa) (w:World):Step Z J w Z J w.drew:=
 ⟨yj _,fun _ _=>rfl,fun _ _ h=>h,fun h k h1 h2=>absurd h2 (by omega),yj _,rfl,rfl,rfl,fun _ _ _=>rfl⟩
theorem ZK.mono {P:Program} {Z Z':Mu} (hm:Z.le Z') {o:Au} {k:Ww} {x:Option Obj} (h:ZK P Z o k x):ZK P Z' o k x:=by
 cases o with
 | cells vs T rw=>
   obtain ⟨c,T',fz,hx,h1,h2,h3,h4,h5,h6,h7⟩:=h;exact ⟨c,T',fz,hx,h1,h2,h3,h4,h5,h6,h7.mono hm⟩
 | map es=>
   obtain ⟨entries,clock,hx,h1⟩:=h;exact ⟨entries,clock,hx,h1.mono hm⟩
 | loop f st regs=>
   obtain ⟨r,hx,h1,h2,h3⟩:=h;exact ⟨r,hx,h1,h2.mono hm,h3⟩
 | dead=>trivial
def Mu.put (Z:Mu) (h:Nat) (k:Ww):Mu:=fun x=>if x=h then some k else Z x
theorem Mu.Fl (Z:Mu) (h:Nat) (k:Ww):Z.put h k h=some k:=by simp[Mu.put]
theorem Mu.F4 (Z:Mu) {h x:Nat} (k:Ww) (hx:x≠h):Z.put h k x=Z x:=by simp[Mu.put,hx]
theorem Mu.pE {Z:Mu} {h:Nat} {k:Ww} (hn:Z h=none):Z.le (Z.put h k):=by
 intro x y hx;rw[Mu.F4 Z k (by rintro rfl; rw[hn] at hx; cases hx)]; exact hx
theorem LY {J:Aa} {o:Au} {h:Nat} (hh:h≠J.length) (hw:Az (J++[o]) h):Az J h:=by
 unfold Az at hw ⊢;by_cases hlt:h<J.length
 ·rwa [AT hlt] at hw
 ·rw[zg (by simp; omega)] at hw; exact hw.elim
theorem UL {J:Aa} {o:Au} {h:Nat} (hh:h≠J.length) (ha:alive (J++[o]) h):alive J h:=by
 obtain ⟨x,hx,hd⟩:=ha;have hlt:h<J.length:=by
  have:=(yu.1 hx).1;simp at this; omega
 exact ⟨x,by rwa [AT hlt] at hx,hd⟩
theorem heap_alloc_old {w:World} {x:Obj} {b:Nat} (hb:b<w.heap.size):(w.alloc x).heap[b]?=w.heap[b]?:=by
 show (w.heap.push x)[b]?=_;rw[Array.getElem?_push,ym (by omega)]
theorem heap_alloc_new (w:World) (x:Obj):(w.alloc x).heap[w.heap.size]?=some x:=by
 show (w.heap.push x)[w.heap.size]?=_;rw[Array.getElem?_push,yk rfl]
theorem R.alloc {P:Program} {Z:Mu} {J:Aa} {w:World} {o:Au} {x:Obj} {k:Ww} (h:R P Z J w) (hf:Z J.length=none) (hb:k.b=w.heap.size)
  (ho:ZK P Z o k (some x)):R P (Z.put J.length k) (J++[o]) (w.alloc x):=by
 have hle:Z.le (Z.put J.length k):=Mu.pE hf;have hold:∀ b,b<w.heap.size->(w.alloc x).heap[b]?=w.heap[b]?:=fun b hb=>heap_alloc_old hb;refine ⟨?_, ?_, ?_⟩
 ·intro h' o' k' ho' hk';by_cases he:h'=J.length
  ·subst he;rw[Mu.Fl] at hk';cases hk';simp at ho';subst ho';have:(w.alloc x).heap[k.b]?=some x:=by rw[hb]; exact heap_alloc_new w x
   rw[this];exact ho.mono hle
  ·rw[Mu.F4 Z k he] at hk';have hlt:h'<J.length:=by
    have:=(yu.1 ho').1;simp at this; omega
   rw[AT hlt] at ho';rw[hold _ (h.lt _ _ hk')];exact (h.obj h' o' k' ho' hk').mono hle
 ·intro h' k' hk';by_cases he:h'=J.length
  ·subst he; rw[Mu.Fl] at hk'; cases hk'; simp[hb]
  ·rw[Mu.F4 Z k he] at hk';have:=h.lt _ _ hk'; simp; omega
 ·intro a b ka kb ha hb' haa hab hww hkk;by_cases he:a=J.length <;> by_cases he':b=J.length
  ·omega
  ·subst he; rw[Mu.Fl] at ha; cases ha;rw[Mu.F4 Z k he'] at hb';have:=h.lt _ _ hb'; omega
  ·subst he'; rw[Mu.Fl] at hb'; cases hb';rw[Mu.F4 Z k he] at ha;have:=h.lt _ _ ha; omega
  ·rw[Mu.F4 Z k he] at ha;rw[Mu.F4 Z k he'] at hb';exact h.inj a b ka kb ha hb' (UL he haa) (UL he' hab) (hww.imp (LY he) (LY he')) hkk
theorem X2 {J:Aa} {o:Au} {h:Nat} (hlt:h<J.length):Az (J++[o]) h=Az J h:=by
 unfold Az; rw[AT hlt]
theorem Step.alloc {Z:Mu} {J:Aa} {w:World} {o:Au} {x:Obj} {k:Ww} (hb:k.b=w.heap.size):Step Z J w (Z.put J.length k) (J++[o]) (w.alloc x):=by
 refine ⟨by simp, ?_, ?_, ?_,by simp,rfl,rfl,rfl, ?_⟩
 ·intro h hh; exact Mu.F4 Z k (by simp at hh; omega)
 ·intro h hh hw; rwa [X2 hh] at hw
 ·intro h k' h1 h2 hk;have:h=J.length:=by simp at h2; omega
  subst this; rw[Mu.Fl] at hk; cases hk; exact .inl (by omega)
 ·intro b hb _;exact heap_alloc_old hb
end
section
theorem Rm {ρ:Type} {k:Kd} {v:Value} {K:Value->Option ρ} {r:ρ} (h:uT k v K=some r):K v=some r:=by
 cases k <;> simp only[uT] at h
 all_goals first
  | exact h
  | (simp only[IS] at h
     obtain ⟨n,h1,h2⟩:=h;cases v <;> simp only[Bn,DK,toStr,HD,ED,db] at h1 <;> first
      | (cases h1; done)
      | (cases h1; exact h2)
      | (split at h1
         ·rename_i hk; subst hk; cases h1; exact h2
         ·cases h1))
theorem V9 {ρ:Type}:∀ {ks:List Kd} {l:List Value} {K:List Value->Option ρ} {r:ρ},bW ks l K=some r->ks.length<=l.length/\K (l.take ks.length)=some r
 | [],l,K,r,h=>by simpa [bW] using h
 | k::ks,[],K,r,h=>by simp[bW] at h
 | k::ks,v::vs,K,r,h=>by
   simp only[bW,Aam,AI,Aat] at h;have:=V9 (Rm h);simpa using this
theorem dN {ρ:Type} {P:Program} {T:TypeId} {v:Value} {K:Value->Option ρ} {r:ρ} (h:wg P T v K=some r):K v=some r:=by
 unfold wg at h;split at h
 ·cases v <;> simp[vd] at h;rename_i vs;obtain ⟨hl,h⟩:=h;have:=(V9 h).2;rw[<- hl,<- zN,Ade] at this;simpa using this
 ·cases h
 ·exact Rm h
 ·cases h
theorem az {ρ:Type} {P:Program}:∀ {Ts:List TypeId} {l:List Value} {K:List Value->Option ρ} {r:ρ},lJ P Ts l K=some r->Ts.length<=l.length/\K (l.take Ts.length)=some r
 | [],l,K,r,h=>by simpa [lJ] using h
 | k::ks,[],K,r,h=>by simp[lJ] at h
 | k::ks,v::vs,K,r,h=>by
   simp only[lJ,Aam,AI,Aat] at h;have:=az (dN h);simpa using this
theorem PH {ρ:Type} {P:Program} {T:TypeId} {v:Value} {K:Value->Option ρ} {r:ρ} (h:oH P T v K=some r):K v=some r:=by
 unfold oH at h;split at h
 ·cases v <;> simp[bH] at h;rename_i ts _ vs;obtain ⟨hl,h⟩:=h;have:=(az h).2;rw[zN,<- hl,<- zN,Ade] at this;simpa using this
 ·exact dN h
theorem fh {ρ:Type} {k:Kd} {J:Aa} {b o:Nat} {K:Value->Option ρ} {r:ρ} (h:qZ k J b o K=some r):∃ v,D5 J b o=some v/\K v=some r:=by
 cases k <;> simp only[qZ,Ak,Tq,pC,BR,AR,sx,IS] at h
 all_goals first
  | (obtain ⟨v,h1,h2⟩:=h; exact ⟨v,h1,h2⟩)
  | (obtain ⟨n,⟨v,h1,h3⟩,h2⟩:=h
     refine ⟨v,h1, ?_⟩;cases v <;> simp only[Bn,DK,toStr,HD,ED,db] at h3 <;> first
      | (cases h3; done)
      | (cases h3; exact h2)
      | (split at h3
         ·rename_i hk; subst hk; cases h3; exact h2
         ·cases h3))
theorem aR {ρ:Type}:∀ {ks:List Kd} {J:Aa} {b o:Nat} {K:List Value->Option ρ} {r:ρ},Za ks J b o K=some r ->
  ∃ vs,vs.length=ks.length/\(∀ (j:Nat) (x:Value),vs[j]?=some x->D5 J b (o+j)=some x)/\K vs=some r
 | [],J,b,o,K,r,h=>⟨[],rfl,by simp,h⟩
 | k::ks,J,b,o,K,r,h=>by
   simp only[Za] at h;obtain ⟨v,h1,h2⟩:=fh h;obtain ⟨vs,hl,hv,hK⟩:=aR h2;refine ⟨v::vs,by simp[hl], ?_,hK⟩;intro j x hx;cases j with
   | zero=>simp at hx; subst hx; simpa using h1
   | succ j=>simp at hx; have:=hv j x hx; rwa [show o+1+j=o+(j+1) by omega] at this
theorem Lq {ρ:Type} {e:Operand->Option Value}:∀ {xs:List Operand} {K:List Value->Option ρ} {r:ρ},qY e xs K=some r ->
  ∃ vs,K vs=some r /\ ∀ (Z:Mu) (f:Operand->Value),(∀ x u,e x=some u->RV Z u (f x))->It Z vs (xs.map f)
 | [],K,r,h=>⟨[],h,fun _ _ _=>.nil⟩
 | x::xs,K,r,h=>by
   simp only[qY,IS] at h;obtain ⟨v,hv,h⟩:=h;obtain ⟨vs,hK,hr⟩:=Lq h;exact ⟨v::vs,hK,fun Z f hf=>.cons (hf x v hv) (hr Z f hf)⟩
inductive uS (Z:Mu):List (Nat × Value)->List (Nat × Value)->Prop
 | nil:uS Z [] []
 | cons {i:Nat} {v v':Value} {vs vs':List (Nat × Value)} (h:RV Z v v') (t:uS Z vs vs'):uS Z ((i,v)::vs) ((i,v')::vs')
theorem YC {ρ:Type} {e:Operand->Option Value}:∀ {xs:List (Nat × Operand)} {K:List (Nat × Value)->Option ρ} {r:ρ},tt e xs K=some r ->
  ∃ vs,K vs=some r /\ ∀ (Z:Mu) (f:Operand->Value),(∀ x u,e x=some u->RV Z u (f x))->uS Z vs (xs.map fun p=>(p.1,f p.2))
 | [],K,r,h=>⟨[],h,fun _ _ _=>.nil⟩
 | (i,x)::xs,K,r,h=>by
   simp only[tt,IS] at h;obtain ⟨v,hv,h⟩:=h;obtain ⟨vs,hK,hr⟩:=YC h;exact ⟨(i,v)::vs,hK,fun Z f hf=>.cons (hf x v hv) (hr Z f hf)⟩
theorem run_sizeOf {P:Program} {T:TypeId} {s:Nat} (h:GY P T=some s) (w:World):(sizeOf T).run P w = .ok s w:=by
 unfold GY at h;cases hi:P.info? T with
 | none=>simp[hi] at h
 | some i=>
   simp[hi] at h;simp[sizeOf,typeInfo,hi,h]
theorem J4 {P:Program} {T:TypeId} {z:Value} (h:Fq P T=some z) (w:World):(zeroValue T).run P w = .ok z w/\HE z=true:=by
 unfold Fq at h;simp only[IS] at h;obtain ⟨i,hi,y,hy,hz⟩:=h;split at hz
 ·cases hz;exact ⟨by simp[zeroValue,typeInfo,hi,hy],‹_›⟩
 ·cases hz
theorem KP {P:Program} {T:TypeId} {d:TypeDesc} (h:P.underlying T=some d) (w:World):(isAgg T).run P w = .ok (JQ P T) w:=by
 unfold JQ;simp only[isAgg,za,yx h,y9,h];cases d <;> rfl
theorem IU {Z:Mu} {v v':Value} (h:RV Z v v') (ht:Gi v=false):It Z v.cells.toList v'.cells.toList/\(∀ x ∈ v.cells.toList,x.oneCell'=true)/\Gi v'=false:=by
 cases h <;> first
  | (simp[Gi] at ht; done)
  | (rename_i h hl; exact ⟨h,hl,rfl⟩)
  | (refine ⟨?_, ?_,rfl⟩
     ·refine .cons ?_ .nil
      first
       | exact .bool _ | exact .int _ _ | exact .string _ | exact .ptrNil | exact .sliceNil | exact .mapNil | exact .nilFunc | exact .nilIface
       | (constructor <;> assumption)
     ·intro x hx; simp[Value.cells] at hx; subst hx; rfl)
def Re (P:Program) (o:Oper) (e:Operand->Option Value) (v:Value):Prop:=
 ∀ (Z:Mu) (w:World) (f:Operand->Value),(∀ x u,e x=some u->RV Z u (f x)) -> ∃ v',(execOp f o).run P w = .ok (.value v') w/\RV Z v v'
section
variable {ρ:Type} {P:Program} [AA]
theorem lM {op:BinOp} {k:IntKind} {a b:Int} {K:Value->Option ρ} {r:ρ} (h:uq op k a b K=some r):
  ∃ v,K v=some r/\H9 v=true /\ ∀ (w:World) T,(binOp op T (.int k a) (.int k b)).run P w = .ok v w:=by
 cases op <;> simp only[uq] at h
 case quo=>
  split at h
  ·cases h
  ·exact ⟨_,h,rfl,fun w T=>by simp[binOp,Op.intDiv, *]⟩
 case rem=>
  split at h
  ·cases h
  ·exact ⟨_,h,rfl,fun w T=>by simp[binOp,Op.intDiv, *]⟩
 all_goals first
  | (cases h; done)
  | exact ⟨_,h,rfl,fun w T=>by simp[binOp,Op.intArith,Op.intBits,Op.intCmp]⟩
theorem Xb {op:BinOp} {k k':IntKind} {a b:Int} {K:Value->Option ρ} {r:ρ} (h:cU op k a b K=some r):
  ∃ v,K v=some r/\H9 v=true /\ ∀ (w:World) T,(binOp op T (.int k a) (.int k' b)).run P w = .ok v w:=by
 unfold cU at h;split at h
 ·cases h
 ·cases op <;> simp only at h
  all_goals first
   | (cases h; done)
   | exact ⟨_,h,rfl,fun w T=>by simp[binOp,Op.shift, *]⟩
theorem lZ {T:TypeId} {a b:Value} {t:Bool} (h:il P T a b=some t) {Z:Mu} {a' b':Value} (ha:RV Z a a') (hb:RV Z b b') (n:Nat) (w:World):
  (Op.equalIn (n+1) T a' b').run P w = .ok t w:=by
 unfold il at h;split at h
 ·rename_i hd;cases ha; cases hb;split at h
  ·cases h; simp[Op.equalIn,yx hd, *]
  ·cases h
 ·rename_i hd;cases ha; cases hb; cases h;simp[Op.equalIn,yx hd]
 ·rename_i hd;cases ha; cases hb; cases h;simp[Op.equalIn,yx hd]
 ·cases h
theorem ma {T:TypeId} {a b:Value} {t:Bool} (h:il P T a b=some t):∃ d,P.underlying T=some d:=by
 unfold il at h;split at h <;> first | (cases h; done) | exact ⟨_,‹_›⟩
theorem gb {T:TypeId} {d:TypeDesc} (hd:P.underlying T=some d) (ha:JQ P T=false) {xs:Array Value} {i:Nat} {v:Value} (hv:xs.toList[i]?=some v) (w:World):
  (part T xs i).run P w = .ok v w:=by
 have:xs[i]?=some v:=by simpa using hv
 simp[part,KP hd,ha,this]
theorem aC {Z:Mu} (n:Nat) (w:World) (xs ys:Array Value):∀ (fs:List Field) (as bs as' bs':List Value) (i:Nat) (t:Bool),YA P fs as bs=some t->RK P i fs=true ->
  It Z as as'->It Z bs bs'->xs.toList.drop i=as'->ys.toList.drop i=bs'->(Op.eqFields (n+1) xs ys fs).run P w = .ok t w
 | [],[],[],as',bs',i,t,h,hf,ha,hb,hx,hy=>by
   simp[YA] at h; subst h; simp[Op.eqFields]
 | f::fs,a::as,b::bs,a'::as',b'::bs',i,t,h,hf,.cons ha1 ha2,.cons hb1 hb2,hx,hy=>by
   simp only[RK,zn,zr,ne_eq,zJ,Abv] at hf;obtain ⟨⟨⟨hn,ho⟩,hg⟩,hf⟩:=hf;have hxa:xs.toList[i]?=some a':=by have:=zC (·[0]?) hx; simpa using this
   have hyb:ys.toList[i]?=some b':=by have:=zC (·[0]?) hy; simpa using this
   have hx':xs.toList.drop (i+1)=as':=by rw[<- List.drop_drop,hx]; rfl
   have hy':ys.toList.drop (i+1)=bs':=by rw[<- List.drop_drop,hy]; rfl
   have key:∃ t1,il P f.type a b=some t1/\(t1=true->YA P fs as bs=some t)/\(t1=false->t=false):=by
    cases fs with
    | nil=>
      cases as with
      | nil=>
        cases bs with
        | nil=>refine ⟨t,by simpa [YA] using h,fun e=>by subst e; rfl,fun e=>e⟩
        | cons _ _ =>
          simp only[YA,IS] at h;obtain ⟨t1,h1,h2⟩:=h;exact ⟨t1,h1,by rintro rfl; first | (simp at h2; done) | simpa using h2,by rintro rfl; simp at h2; exact h2⟩
      | cons _ _=>
        simp only[YA,IS] at h;obtain ⟨t1,h1,h2⟩:=h;exact ⟨t1,h1,by rintro rfl; first | (simp at h2; done) | simpa using h2,by rintro rfl; simp at h2; exact h2⟩
    | cons _ _=>
       simp only[YA,IS] at h;obtain ⟨t1,h1,h2⟩:=h;exact ⟨t1,h1,by rintro rfl; first | (simp at h2; done) | simpa using h2,by rintro rfl; simp at h2; exact h2⟩
   obtain ⟨t1,h1,h2,h3⟩:=key;obtain ⟨d,hd⟩:=ma h1;simp only[Op.eqFields,hn,ne_eq,zP,ye,za,ho,gb hd hg hxa,gb hd hg hyb,y9,lZ h1 ha1 hb1];cases t1
   ·simp[h3 rfl]
   ·simp only[yp,y8,yq];exact aC n w xs ys fs as bs as' bs' (i+1) t (h2 rfl) hf ha2 hb2 hx' hy'
 | _::_,[],_,_,_,_,_,h,_,_,_,_,_=>by simp[YA] at h
 | _::_,_::_,[],_,_,_,_,h,_,_,_,_,_=>by simp[YA] at h
theorem Xx {T e:TypeId} (hd:P.underlying T=some (.pointer e)) (n:Nat) (y:Option Addr) (w:World):(Op.equalIn (n+1) T (.pointer none) (.pointer y)).run P w = .ok y.isNone w:=by
 simp[Op.equalIn,yx hd]
theorem Xy {T e:TypeId} (hd:P.underlying T=some (.pointer e)) (n:Nat) (y:Option Addr) (w:World):(Op.equalIn (n+1) T (.pointer y) (.pointer none)).run P w = .ok y.isNone w:=by
 cases y <;> simp[Op.equalIn,yx hd]
theorem US {T e:TypeId} (hd:P.underlying T=some (.slice e)) (n:Nat) (y:Option Addr) (l c l' c':Nat) (w:World):(Op.equalIn (n+1) T (.slice none l c) (.slice y l' c')).run P w = .ok y.isNone w:=by
 simp[Op.equalIn,yx hd]
theorem UT {T e:TypeId} (hd:P.underlying T=some (.slice e)) (n:Nat) (y:Option Addr) (l c l' c':Nat) (w:World):(Op.equalIn (n+1) T (.slice y l c) (.slice none l' c')).run P w = .ok y.isNone w:=by
 cases y <;> simp[Op.equalIn,yx hd]
theorem et {T:TypeId} {a b:Value} {t:Bool} (h:J9 P T a b=some t) {Z:Mu} {a' b':Value} (ha:RV Z a a') (hb:RV Z b b') (w:World) (x y:Operand) (op:BinOp):
  (eqGuard op T x y a' b').run P w = .ok () w/\(Op.equal T a' b').run P w = .ok t w/\(∀ op,binOp op T a' b'=match op with
   | .eql=>do pure (.bool (<- Op.equal T a' b'))
   | .neq=>do pure (.bool (!(<- Op.equal T a' b')))
   | op=>binOp op T a' b'):=by
 unfold J9 at h;split at h
 ·split at h
  ·rename_i hd;cases ha; cases hb; cases h;exact ⟨by cases op <;> simp[eqGuard],run_equalIn_bool' w 9999 T _ _ hd,fun op=>by cases op <;> simp only[binOp]⟩
  ·cases h
 ·split at h
  ·rename_i hd;cases ha; cases h;cases hb <;>
    exact ⟨by cases op <;> simp[eqGuard],Xx hd 9999 _ w,fun op=>by cases op <;> simp only[binOp]⟩
  ·cases h
 ·split at h
  ·rename_i hd;cases hb; cases h;cases ha <;>
    exact ⟨by cases op <;> simp[eqGuard],Xy hd 9999 _ w,fun op=>by cases op <;> simp only[binOp]⟩
  ·cases h
 ·split at h
  ·rename_i hd;cases ha; cases h;cases hb <;>
    exact ⟨by cases op <;> simp[eqGuard],US hd 9999 _ _ _ _ _ w,fun op=>by cases op <;> simp only[binOp]⟩
  ·cases h
 ·split at h
  ·rename_i hd;cases hb; cases h;cases ha <;>
    exact ⟨by cases op <;> simp[eqGuard],UT hd 9999 _ _ _ _ _ w,fun op=>by cases op <;> simp only[binOp]⟩
  ·cases h
 ·split at h
  ·rename_i fs hd;cases hc:(RK P 0 fs.toList && !P.stoodInHeld T && !P.eqGuardType P.depth T) with
   | false=>rw[hc] at h; cases h
   | true=>
     rw[hc] at h;simp only[IT] at h;simp only[zn,Abv] at hc;obtain ⟨⟨hf,hs⟩,hg⟩:=hc;have hfo:P.fieldsOf T=fs:=by simp[Program.fieldsOf,hd]
     cases ha with
     | agg ha _=>
       cases hb with
       | agg hb _=>
         refine ⟨run_eqGuard_agg w op T x y _ _ hg, ?_,fun op=>by cases op <;> simp only[binOp]⟩;show (Op.equalIn (9999+1) T _ _).run P w=_;rw[run_equalIn_struct w 9999 T _ _ (by rw[hd,hfo]) hs,hfo];exact aC 9998 w _ _ fs.toList _ _ _ _ 0 t h hf ha hb (by simp) (by simp)
  ·cases h
 ·cases h
end
end
section
variable {ρ:Type} {P:Program} [AA]
theorem lL {op:BinOp} {T:TypeId} {a b:Value} {K:Value->Option ρ} {r:ρ} (h:uo P op T a b K=some r):
  ∃ v,K v=some r/\H9 v=true /\ ∀ (Z:Mu) (a' b':Value),RV Z a a'->RV Z b b' -> ∀ (w:World) (x y:Operand),
   (do eqGuard op T x y a' b'; binOp op T a' b':Sem Value).run P w = .ok v w:=by
 unfold uo at h;split at h
 ·rename_i k m k' n;have hg:∀ (w:World) (x y:Operand),(eqGuard op T x y (.int k m) (.int k' n)).run P w = .ok () w:=fun w x y=>by cases op <;> simp[eqGuard]
  split at h
  ·obtain ⟨v,h1,h2,h3⟩:=Xb (P:=P) (k':=k') h;refine ⟨v,h1,h2,fun Z a' b' ha hb w x y=>?_⟩;cases ha; cases hb;simp only[za,hg,y9];exact h3 w T
  ·obtain ⟨v,h1,h2,h3⟩:=Xb (P:=P) (k':=k') h;refine ⟨v,h1,h2,fun Z a' b' ha hb w x y=>?_⟩;cases ha; cases hb;simp only[za,hg,y9];exact h3 w T
  ·split at h
   ·rename_i hk; subst hk;obtain ⟨v,h1,h2,h3⟩:=lM (P:=P) h;refine ⟨v,h1,h2,fun Z a' b' ha hb w x y=>?_⟩;cases ha; cases hb;simp only[za,hg,y9];exact h3 w T
   ·cases h
 ·split at h
  ·simp only[IS] at h;obtain ⟨t,h1,h2⟩:=h;refine ⟨_,h2,rfl,fun Z a' b' ha hb w x y=>?_⟩;obtain ⟨g1,g2,g3⟩:=et h1 ha hb w x y .eql;simp only[za,g1,y9,g3,g2,zf]
  ·simp only[IS] at h;obtain ⟨t,h1,h2⟩:=h;refine ⟨_,h2,rfl,fun Z a' b' ha hb w x y=>?_⟩;obtain ⟨g1,g2,g3⟩:=et h1 ha hb w x y .neq;simp only[za,g1,y9,g3,g2,zf]
  ·cases h
theorem qT {op:UnOp} {a:Value} {K:Value->Option ρ} {r:ρ} (h:xd op a K=some r):
  ∃ v,K v=some r/\H9 v=true /\ ∀ (Z:Mu) (a':Value),RV Z a a' -> ∀ (w:World),(Op.unary op a').run P w = .ok v w:=by
 unfold xd at h;split at h
 ·exact ⟨_,h,rfl,fun Z a' ha w=>by cases ha; simp[Op.unary]⟩
 ·exact ⟨_,h,rfl,fun Z a' ha w=>by cases ha; simp[Op.unary,Op.intArith]⟩
 ·cases h
theorem Qf {T:TypeId} {f:Nat} {ot:Nat × TypeId} (h:UX P T f=some ot):
  ∃ (fs:Array Field) (x:Field),P.underlying T=some (.struct fs)/\fs[f]?=some x/\x.offset=ot.1/\x.type=ot.2:=by
 unfold UX at h;split at h
 ·rename_i fs hd;split at h
  ·rename_i x hx;cases h;exact ⟨fs,x,hd,by simpa using hx,rfl,rfl⟩
  ·cases h
 ·cases h
theorem Yo {T E:TypeId} {n:Nat} (h:dM P T=some (n,E)):P.underlying T=some (.array n E):=by
 unfold dM at h;split at h
 ·cases h; assumption
 ·cases h
theorem I0 {T E:TypeId} (h:Oc P T=some E):P.underlying T=some (.slice E):=by
 unfold Oc at h;split at h
 ·cases h; assumption
 ·cases h
theorem JV (b o n:Nat):(⟨b,o,none⟩:Addr).add n=⟨b,o+n,none⟩:=by
 unfold Addr.add; split <;> simp_all
theorem eR (off:Nat):∀ (l:List Value) (k:Nat) (a:Array Value),off+k+l.length<=a.size ->
  ((l.zipIdx k).foldl (fun (cs:Array Value) (p:Value × Nat)=>cs.setIfInBounds (off+p.2) p.1) a).toList=a.toList.take (off+k)++l++a.toList.drop (off+k+l.length)
 | [],k,a,h=>by simp
 | v::l,k,a,h=>by
   simp only[List.zipIdx_cons,zF];have ih:=eR off l (k+1) (a.setIfInBounds (off+k) v) (by simp at h ⊢; omega);rw[ih];have e:=list_seg_step a.toList (off+k) v l (by simp at h ⊢; omega);simpa [Ac1,zu] using e
theorem iw (off:Nat) (l a:Array Value) (h:off+l.size<=a.size):
  (l.zipIdx.foldl (fun (cs:Array Value) (p:Value × Nat)=>cs.setIfInBounds (off+p.2) p.1) a).toList=AP a.toList off l.toList:=by
 rw[<- Array.foldl_toList,Array.toList_zipIdx];have:=eR off l.toList 0 a (by simpa using h);simpa [AP] using this
theorem It.AP {Z:Mu} {cs cs' vs vs':List Value} (h:It Z cs cs') (g:It Z vs vs') (o:Nat):It Z (AP cs o vs) (AP cs' o vs'):=by
 unfold AX.AP;rw[g.length];exact ((h.take o).append g).append (h.drop _)
theorem OB {cs vs:List Value} {o:Nat} (h:∀ v ∈ cs,v.oneCell'=true) (g:∀ v ∈ vs,v.oneCell'=true):∀ v ∈ AP cs o vs,v.oneCell'=true:=by
 intro v hv;unfold AX.AP at hv;simp only[yf] at hv;rcases hv with (hv | hv) | hv
 ·exact h v (Ab0 hv)
 ·exact g v hv
 ·exact h v (Abl hv)
theorem Hk {cs vs:List Value} {o:Nat} (h:o+vs.length<=cs.length):(AP cs o vs).length=cs.length:=by
 simp[AP]; omega
theorem aF {place:Nat->Option (Nat × Nat)} {i off:Nat} {v:Value} {cells:Array Value} {rest:List (Nat × Value)} (hp:place i=some (off,v.cells.size)) (h:off+v.cells.size<=cells.size):
  ∃ cells',cells'.toList=AP cells.toList off v.cells.toList/\Instr.fill place cells ((i,v)::rest)=Instr.fill place cells' rest:=by
 refine ⟨_,iw off v.cells cells h, ?_⟩;simp only[Instr.fill,hp];rw[ym (by simp; omega)]
theorem WU {Z:Mu} {T:TypeId} {fs:Array Field} (hT:P.underlying T=some (.struct fs)) (place:Nat->Option (Nat × Nat))
  (hp:∀ (i:Nat) (x:Field),fs[i]?=some x -> ∀ s,GY P x.type=some s->place i=some (x.offset,s)):
  ∀ (ps ps':List (Nat × Value)) (cs:List Value) (cs':Array Value) (out:List Value),uS Z ps ps'->It Z cs cs'.toList->(∀ v ∈ cs,v.oneCell'=true)->Zl P T ps cs=some out ->
   ∃ out',Instr.fill place cs' ps'=some out'/\It Z out out'.toList/\(∀ v ∈ out,v.oneCell'=true)
 | _,_,cs,cs',out,.nil,hc,hl,h=>by
   simp[Zl] at h; subst h;exact ⟨cs',rfl,hc,hl⟩
 | _,_,cs,cs',out,.cons (i:=i) (v:=v) (v':=v') hv ht,hc,hl,h=>by
   simp only[Zl] at h;split at h
   ·rename_i o t hf;split at h
    ·rename_i hsz;obtain ⟨hsz,hfit,htup⟩:=hsz;obtain ⟨fs',x,hd,hx,ho,htt⟩:=Qf hf;rw[hT] at hd; cases hd;simp only at ho htt;subst ho; subst htt;have hpl:=hp i x hx _ hsz;obtain ⟨hv1,hv2,hv3⟩:=IU hv htup;have hlen:v'.cells.size=v.cells.size:=by have:=hv1.length; simp at this; omega
     have hcl:=hc.length;rw[<- hlen] at hpl;obtain ⟨cells',hc',hfill⟩:=aF (rest:=_) hpl (cells:=cs') (by simp at hcl; omega);obtain ⟨out',h1,h2,h3⟩:=WU hT place hp _ _ _ cells' out ht (by rw[hc']; exact hc.AP hv1 _) (OB hl hv2) h;exact ⟨out',by rw[hfill]; exact h1,h2,h3⟩
    ·cases h
   ·cases h
theorem RJ {Z:Mu} {s:Nat}:
  ∀ (ps ps':List (Nat × Value)) (cs:List Value) (cs':Array Value) (out:List Value),uS Z ps ps'->It Z cs cs'.toList->(∀ v ∈ cs,v.oneCell'=true)->VU s ps cs=some out ->
   ∃ out',Instr.fill (fun i=>some (i*s,s)) cs' ps'=some out'/\It Z out out'.toList/\(∀ v ∈ out,v.oneCell'=true)/\out.length=cs.length
 | _,_,cs,cs',out,.nil,hc,hl,h=>by
   simp[VU] at h; subst h;exact ⟨cs',rfl,hc,hl,rfl⟩
 | _,_,cs,cs',out,.cons (i:=i) (v:=v) (v':=v') hv ht,hc,hl,h=>by
   simp only[VU] at h;split at h
   ·rename_i hsz;obtain ⟨hsz,hfit,htup⟩:=hsz;obtain ⟨hv1,hv2,hv3⟩:=IU hv htup;have hlen:v'.cells.size=v.cells.size:=by have:=hv1.length; simp at this; omega
    have hcl:=hc.length;obtain ⟨cells',hc',hfill⟩:=aF (place:=fun i=>some (i*s,s)) (rest:=_) (i:=i) (off:=i*s) (v:=v') (cells:=cs') (by simp[hlen,hsz]) (by simp at hcl; omega);obtain ⟨out',h1,h2,h3,h4⟩:=RJ _ _ _ cells' out ht (by rw[hc']; exact hc.AP hv1 _) (OB hl hv2) h;exact ⟨out',by rw[hfill]; exact h1,h2,h3,by rw[h4,Hk (by simpa using hfit)]⟩
   ·cases h
theorem run_places (w:World):∀ (fs:List Field),(∀ f ∈ fs,(P.info? f.type).isSome=true) ->
  (fs.mapM fun f=>(do pure (f.offset,<- sizeOf f.type):Sem (Nat × Nat))).run P w = .ok (fs.map fun f=>(f.offset,(GY P f.type).getD 0)) w
 | [],_=>by simp
 | f::fs,h=>by
   obtain ⟨i,hi⟩:=Option.isSome_iff_exists.1 (h f (by simp));have hs:GY P f.type=some i.size:=by simp[GY,hi]
   have ih:=run_places w fs fun g hg=>h g (by simp[hg]);simp only[List.mapM_cons,za,run_sizeOf hs,y9,zf,zD,hs,Aaz,ih]
theorem mM {T:TypeId} {parts:Array (Nat × Operand)} {call:Gc} {q:Bool} {ty:TypeId} {e:Operand->Option Value} {J:Aa} {K:Value->Aa->Option ρ} {r:ρ}
  (h:Ii P call q (.build T parts) ty e J K=some r):∃ v,K v J=some r /\ ∀ (o:Oper),o.op = .build T parts->Re P o e v:=by
 simp only[Ii,IS] at h;obtain ⟨z,hz,h⟩:=h;obtain ⟨ps,h,hps⟩:=YC h;split at h
 ·rename_i fs hT;split at h
  ·rename_i hall;simp only[IS] at h;obtain ⟨cs,hcs,h⟩:=h;refine ⟨_,h,fun o ho Z w f hf=>?_⟩;obtain ⟨hz1,hz2⟩:=J4 hz w;have hpl:=hps Z f hf;have hzr:RV Z z z:=.HE hz2;obtain ⟨hzc,hzl,_⟩:=IU hzr (hall.2);have hrun:=run_places (P:=P) w fs.toList (by have:=hall.1; rw[Aay] at this; exact this);obtain ⟨out',h1,h2,h3⟩:=WU hT (fun i=>(fs.toList.map fun f=>(f.offset,(GY P f.type).getD 0)).toArray[i]?)
    (fun i x hx s hs=>by simp[hx,hs]) _ _ _ z.cells cs hpl hzc hzl hcs;refine ⟨.agg out', ?_,.agg (by simpa using h2) (by simpa using h3)⟩;have hm:(parts.map fun x=>(x.1,f x.2)).toList=parts.toList.map fun p=>(p.1,f p.2):=by simp
   have harr:(fs.mapM fun f=>(do pure (f.offset,<- sizeOf f.type):Sem (Nat × Nat))).run P w = .ok (fs.toList.map fun f=>(f.offset,(GY P f.type).getD 0)).toArray w:=by
    rw[Array.mapM_eq_mapM_toList];simp only[Sem.run_map,hrun,y9]
   simp only[execOp,ho,Instr.build,za,hz1,y9,yx hT,harr,hm,h1,zf]
  ·cases h
 ·rename_i n E hT;simp only[IS] at h;obtain ⟨s,hs,h⟩:=h;split at h
  ·rename_i htup;simp only[IS] at h;obtain ⟨cs,hcs,h⟩:=h;refine ⟨_,h,fun o ho Z w f hf=>?_⟩;obtain ⟨hz1,hz2⟩:=J4 hz w;have hpl:=hps Z f hf;have hzr:RV Z z z:=.HE hz2;obtain ⟨hzc,hzl,_⟩:=IU hzr htup;obtain ⟨out',h1,h2,h3,_⟩:=RJ _ _ _ z.cells cs hpl hzc hzl hcs;refine ⟨.agg out', ?_,.agg (by simpa using h2) (by simpa using h3)⟩;have hm:(parts.map fun x=>(x.1,f x.2)).toList=parts.toList.map fun p=>(p.1,f p.2):=by simp
   simp only[execOp,ho,Instr.build,za,hz1,y9,yx hT,run_sizeOf hs,hm,h1,zf]
  ·cases h
 ·cases h
end
section
variable {ρ:Type} {P:Program} [AA]
theorem AO {o:Oper} {f:Operand->Value} {w w':World} {v:Value} {s:Sem Value} (h:execOp f o=(do pure (.value (<- s)):Sem Next)) (hs:s.run P w = .ok v w'):
  (execOp f o).run P w = .ok (.value v) w':=by
 rw[h]; simp[hs]
theorem Db {f:Operand->Value} {o:Oper} {c:Call} {b:Builtin} (ho:o.op = .call c) (hb:c.callee = .builtin b):
  ∃ cs,execOp f o=builtin b c.argTypes o.type cs (c.args.toList.map f).toArray:=by
 have:(c.args.toList.map f).toArray=c.args.map f:=by rw[<- Array.toList_map,Array.toArray_toList]
 rw[this];unfold execOp;rw[ho];refine ⟨c.args.map fun | .const _=>true | _=>false, ?_⟩;show (do let d <- resolve f c o.type; invoke d.target d.args:Sem Next)=_;unfold resolve;rw[hb];rfl
theorem toList_eq {α:Type} {a:Array α} {l:List α} (h:a.toList=l):a=l.toArray:=by cases a; simp at h; simp[h]
theorem Po {o:Oper} {call:Gc} {q:Bool} {e:Operand->Option Value} {J:Aa} {K:Value->Aa->Option ρ} {r:ρ} (hc:F6 P o = .pure)
  (h:Ii P call q o.op o.type e J K=some r):∃ v,K v J=some r/\Re P o e v:=by
 cases ho:o.op
 case build T parts=>
  rw[ho] at h;obtain ⟨v,h1,h2⟩:=mM h;exact ⟨v,h1,h2 o ho⟩
 case move x=>
  rw[ho] at h;simp only[Ii,IS] at h;obtain ⟨v,hv,h⟩:=h;exact ⟨v,h,fun Z w f hf=>⟨f x,by simp[execOp,ho],hf x v hv⟩⟩
 case assign x=>
  rw[ho] at h;simp only[Ii,IS] at h;obtain ⟨v,hv,h⟩:=h;exact ⟨v,h,fun Z w f hf=>⟨f x,by simp[execOp,ho],hf x v hv⟩⟩
 case pick c a b=>
  rw[ho] at h;simp only[Ii,IS] at h;obtain ⟨v,hv,h⟩:=h;split at h
  ·simp only[IS] at h;obtain ⟨u,hu,h⟩:=h;refine ⟨u,h,fun Z w f hf=>⟨f a, ?_,hf a u hu⟩⟩;have:=hf c _ hv;cases hfc:f c <;> rw[hfc] at this <;> cases this;simp[execOp,ho,hfc,asBool]
  ·simp only[IS] at h;obtain ⟨u,hu,h⟩:=h;refine ⟨u,h,fun Z w f hf=>⟨f b, ?_,hf b u hu⟩⟩;have:=hf c _ hv;cases hfc:f c <;> rw[hfc] at this <;> cases this;simp[execOp,ho,hfc,asBool]
  ·cases h
 case nilCheck x=>
  rw[ho] at h;simp only[Ii,IS] at h;obtain ⟨v,hv,h⟩:=h;unfold iP at h;split at h
  ·simp only[IS] at h;obtain ⟨a,ha,h⟩:=h;subst ha;refine ⟨_,h,fun Z w f hf=>?_⟩;have hr:=hf x _ hv;refine ⟨f x, ?_,hr⟩;generalize hfx:f x=fx at hr;cases hr;simp[execOp,ho,hfx]
  ·refine ⟨_,h,fun Z w f hf=>?_⟩;have hr:=hf x _ hv;refine ⟨f x, ?_,hr⟩;generalize hfx:f x=fx at hr;cases hr;simp[execOp,ho,hfx]
  ·refine ⟨_,h,fun Z w f hf=>?_⟩;have hr:=hf x _ hv;refine ⟨f x, ?_,hr⟩;generalize hfx:f x=fx at hr;cases hr;simp[execOp,ho,hfx]
  ·cases h
 case binOp op T x y yT=>
  rw[ho] at h;simp only[Ii,IS] at h;obtain ⟨a,ha,b,hb,h⟩:=h;obtain ⟨v,h1,h2,h3⟩:=lL h;refine ⟨v,h1,fun Z w f hf=>⟨v, ?_,.H9 h2⟩⟩;exact AO (by simp only[execOp,ho] <;> rfl) (h3 Z _ _ (hf x a ha) (hf y b hb) w x y)
 case unOp op T x=>
  rw[ho] at h;simp only[Ii,IS] at h;obtain ⟨a,ha,h⟩:=h;obtain ⟨v,h1,h2,h3⟩:=qT (P:=P) h;exact ⟨v,h1,fun Z w f hf=>⟨v,AO (by simp only[execOp,ho] <;> rfl) (h3 Z _ (hf x a ha) w),.H9 h2⟩⟩
 case convert s d x=>
  rw[ho] at h;simp only[Ii,IS] at h;obtain ⟨a,ha,h⟩:=h;split at h
  ·rename_i hs hd;refine ⟨_,h,fun Z w f hf=>⟨_, ?_,.int _ _⟩⟩;have hr:=hf x _ ha;generalize hfx:f x=fx at hr;cases hr;refine AO (by simp only[execOp,ho] <;> rfl) ?_;simp only[hfx,convert,za,yx hs,yx hd,y9,Conv.intToInt,zf]
  ·cases h
 case makeInterface T x=>
  rw[ho] at h;simp only[Ii,IS] at h;obtain ⟨a,ha,h⟩:=h;split at h
  ·cases h
  ·rename_i d hn hd;refine ⟨_,h,fun Z w f hf=>⟨_, ?_,.iface (hf x a ha)⟩⟩;refine AO (by simp only[execOp,ho] <;> rfl) ?_;exact run_makeInterface w T _ (by unfold Program.concrete; rw[hd]; cases d <;> first | rfl | exact absurd rfl (hn _))
  ·cases h
 case makeFunc fn first cap=>
  rw[ho] at h;simp only[Ii] at h;split at h
  ·cases h
  rename_i hny;obtain ⟨vs,h,h1⟩:=Lq h;obtain ⟨us,h,h2⟩:=Lq h;refine ⟨_,h,fun Z w f hf=>⟨_,AO (by simp only[execOp,ho] <;> rfl) rfl, ?_⟩⟩;exact .func (fun l hl=>hny l hl) (by simpa using h1 Z f hf) (by simpa using h2 Z f hf)
 case fieldAddr T x i=>
  rw[ho] at h;simp only[Ii,IS] at h;obtain ⟨ot,hot,v,hv,h⟩:=h;split at h
  ·simp only[IS] at h;obtain ⟨a,ha,s,hs,h⟩:=h;split at h
   ·cases h
   ·rename_i hs0;subst ha;obtain ⟨fs,fx,hd,hfx,h1,h2⟩:=Qf hot;refine ⟨_,h,fun Z w f hf=>?_⟩;have hr:=hf x _ hv;generalize hfx':f x=fx' at hr;cases hr with
    | @ptr _ k hk hsp=>
      refine ⟨.pointer (some ⟨k.b,k.o+(a.off+ot.1),none⟩),AO (by simp only[execOp,ho] <;> rfl) ?_,RV.ptr (a:=⟨a.block,a.off+ot.1,none⟩) hk rfl⟩;rw[hfx',<- zu];simp only[Instr.fieldAt,za,yx hd,y9,hfx,Instr.sureAddr,zf,fieldPlace,h2,run_sizeOf hs,Sem.run_ite,ym hs0,JV,h1]
  ·cases h
 case field T x i=>
  rw[ho] at h;simp only[Ii,IS] at h;obtain ⟨ot,hot,v,hv,h⟩:=h;obtain ⟨fs,fx,hd,hfx,h1,h2⟩:=Qf hot;split at h
  ·rename_i vs;cases hb:JQ P ot.2 with
   | true=>
     rw[hb] at h;simp only[IT,IS] at h;obtain ⟨s,hs,h⟩:=h;refine ⟨_,h,fun Z w f hf=>?_⟩;have hr:=hf x _ hv;generalize hfx':f x=fx' at hr;cases hr with
     | agg hr hl=>
       rename_i vs';obtain ⟨d,hdt⟩:∃ d,P.underlying ot.2=some d:=by
        unfold JQ at hb; cases hq:P.underlying ot.2 with
        | none=>simp[hq] at hb
        | some d=>exact ⟨d,rfl⟩
       refine ⟨.agg (vs'.extract ot.1 (ot.1+s)),AO (by simp only[execOp,ho] <;> rfl) ?_,.agg ?_ ?_⟩
       ·rw[hfx'];simp only[Instr.field,za,yx hd,y9,hfx,asAgg,zf,part,h2,KP hdt,hb,ye,run_sizeOf hs,h1]
       ·have:=(hr.drop ot.1).take s;simpa [List.extract_eq_take_drop] using this
       ·intro y hy;simp only at hy;exact hl y (Abl (Ab0 hy))
   | false=>
     rw[hb] at h;simp only[By,IS] at h;obtain ⟨d,hq,u,hu,h⟩:=h;refine ⟨u,h,fun Z w f hf=>?_⟩;have hr:=hf x _ hv;generalize hfx':f x=fx' at hr;cases hr with
     | agg hr hl=>
       rename_i vs';obtain ⟨u',hu',hru⟩:=hr.get _ _ hu;refine ⟨u',AO (by simp only[execOp,ho] <;> rfl) ?_,hru⟩;rw[hfx'];have hu'':vs'[ot.1]?=some u':=by simpa using hu'
       simp only[Instr.field,za,yx hd,y9,hfx,asAgg,zf,part,h2,KP hq,hb,y8,yq,h1,hu'']
  ·cases h
 case index T x i=>
  rw[ho] at h;simp only[Ii,IS] at h;obtain ⟨⟨len,E⟩,hE,v,hv,u,hu,h⟩:=h;have hT:=Yo hE;split at h
  ·rename_i vs k n;cases hb:JQ P E with
   | true=>rw[hb] at h; cases h
   | false=>
     rw[hb] at h;simp only[By] at h;split at h
     ·rename_i hn;simp only[IS] at h;obtain ⟨d,hq,s,hs,y,hy,h⟩:=h
      replace h:=Rm h
      refine ⟨y,h,fun Z w f hf=>?_⟩;have hr:=hf x _ hv;have hi:=hf i _ hu;generalize hfx:f x=fx at hr;generalize hfi:f i=fi at hi;cases hi;cases hr with
      | agg hr hl=>
        rename_i vs';obtain ⟨y',hy',hry⟩:=hr.get _ _ hy;have hy'':vs'[n.toNat*s]?=some y':=by simpa using hy'
        refine ⟨y',AO (by simp only[execOp,ho] <;> rfl) ?_,hry⟩;rw[hfx,hfi];simp only[Instr.index,asIntOf,za,zf,y9,yx hT];rw[yk hn];simp only[za,run_sizeOf hs,y9,part,KP hq,hb,y8,yq,hy'',zf]
     ·cases h
  ·cases h
 case indexAddr T x i=>
  rw[ho] at h;cases hA:dM P T with
  | some le=>
    obtain ⟨len,E⟩:=le;simp only[Ii,hA,IS] at h;obtain ⟨s,hs,v,hv,u,hu,h⟩:=h;have hT:=Yo hA;split at h
    ·rename_i a k n;simp only[IS] at h;obtain ⟨a',ha,h⟩:=h;subst ha;split at h
     ·rename_i hn;refine ⟨_,h,fun Z w f hf=>?_⟩;have hr:=hf x _ hv;have hi:=hf i _ hu;generalize hfx:f x=fx at hr;generalize hfi:f i=fi at hi;cases hi;cases hr with
      | @ptr _ k' hk hsp=>
        refine ⟨.pointer (some ⟨k'.b,k'.o+(a'.off+n.toNat*s),none⟩),AO (by simp only[execOp,ho] <;> rfl) ?_,RV.ptr (a:=⟨a'.block,a'.off+n.toNat*s,none⟩) hk rfl⟩;rw[hfx,hfi,<- zu];simp only[Instr.indexAt,asIntOf,za,zf,y9,yx hT,Instr.sureAddr];rw[yk hn];simp only[za,run_sizeOf hs,y9,zf,JV]
     ·cases h
    ·cases h
  | none=>
  simp only[Ii,hA,IS] at h;obtain ⟨E,hE,s,hs,v,hv,u,hu,h⟩:=h;have hT:=I0 hE;split at h
  ·rename_i a len cap k n;split at h
   ·rename_i hn;simp only[IS] at h;obtain ⟨a',ha,h⟩:=h;subst ha;refine ⟨_,h,fun Z w f hf=>?_⟩;have hr:=hf x _ hv;have hi:=hf i _ hu;generalize hfx:f x=fx at hr;generalize hfi:f i=fi at hi;cases hi;cases hr with
    | @slice _ k' _ _ _ hk hsp hl hc hm=>
      refine ⟨.pointer (some ⟨k'.b,k'.o+(a'.off+n.toNat*s),none⟩),AO (by simp only[execOp,ho] <;> rfl) ?_,RV.ptr (a:=⟨a'.block,a'.off+n.toNat*s,none⟩) hk rfl⟩;rw[hfx,hfi,<- zu];simp only[Instr.indexAt,asIntOf,za,zf,y9,yx hT];rw[yk hn];simp only[za,run_sizeOf hs,y9,zf,JV]
    | sliceEnd hk hsp hm=>omega
    | sliceZ y hz=>omega
   ·cases h
  ·cases h
 case extract x i=>
  rw[ho] at h;simp only[Ii,IS] at h;obtain ⟨v,hv,h⟩:=h;split at h
  ·simp only[IS] at h;obtain ⟨u,hu,h⟩:=h;refine ⟨u,h,fun Z w f hf=>?_⟩;have hr:=hf x _ hv;generalize hfx:f x=fx at hr;cases hr with
   | tuple hr=>
     rename_i vs';obtain ⟨u',hu',hru⟩:=hr.get _ _ hu;refine ⟨u',AO (by simp only[execOp,ho] <;> rfl) ?_,hru⟩;have hu'':vs'[i]?=some u':=by simpa using hu'
     simp only[hfx,Instr.extract,hu'',zf]
  ·cases h
 case call c=>
  rw[ho] at h;simp only[F6,ho] at hc;split at hc
  ·rename_i b hb;simp only[Ii,hb] at h;obtain ⟨vs,h,hvs⟩:=Lq h;cases b <;> simp only[ZO] at hc <;> first
    | (cases hc; done)
    | skip
   case len=>
    cases hm:RQ P c.argTypes.toList <;> rw[hm] at hc <;> simp only[ZO] at hc
    ·simp only[Nl,uA] at h;split at h;rotate_left
     ·cases h
     rename_i t v hts;split at h
     ·rename_i n _ hd;refine ⟨_,h,fun Z w f hf=>?_⟩;obtain ⟨cs,hex⟩:=Db (f:=f) ho hb;have hr:=hvs Z f hf;generalize c.args.toList.map f=l at hr hex;cases hr with
      | cons h1 h2=>
        cases h2;refine ⟨_, ?_,.int _ _⟩;rw[hex,toList_eq hts];cases h1 <;> simp[builtin,Builtin.len_,yx hd,goInt]
     ·rename_i s hd;refine ⟨_,h,fun Z w f hf=>?_⟩;obtain ⟨cs,hex⟩:=Db (f:=f) ho hb;have hr:=hvs Z f hf;generalize c.args.toList.map f=l at hr hex;cases hr with
      | cons h1 h2=>
        cases h2;refine ⟨_, ?_,.int _ _⟩;rw[hex,toList_eq hts];cases h1 <;> simp[builtin,Builtin.len_,yx hd,goInt]
     ·rename_i hd;rw[hts] at hm;simp[RQ,hd] at hm
     ·cases h
    ·cases hc
   case max=>
    simp only[Nl,vI] at h;split at h;rotate_left
    ·cases h
    rename_i k x k' y;split at h
    ·rename_i hk; subst hk;refine ⟨_,h,fun Z w f hf=>?_⟩;obtain ⟨cs,hex⟩:=Db (f:=f) ho hb;have hr:=hvs Z f hf;generalize c.args.toList.map f=l at hr hex;cases hr with
     | cons h1 h2=>
       cases h2 with
       | cons h2 h3=>
         cases h3; cases h1; cases h2;refine ⟨_, ?_,.int _ _⟩;rw[hex];simp[builtin,Builtin.max_,Builtin.max2]
    ·cases h
   case min=>
    simp only[Nl,vJ] at h;split at h;rotate_left
    ·cases h
    rename_i k x k' y;split at h
    ·rename_i hk; subst hk;refine ⟨_,h,fun Z w f hf=>?_⟩;obtain ⟨cs,hex⟩:=Db (f:=f) ho hb;have hr:=hvs Z f hf;generalize c.args.toList.map f=l at hr hex;cases hr with
     | cons h1 h2=>
       cases h2 with
       | cons h2 h3=>
         cases h3; cases h1; cases h2;refine ⟨_, ?_,.int _ _⟩;rw[hex];simp[builtin,Builtin.min_,Builtin.min2]
    ·cases h
  ·cases hc
 all_goals (rw[ho] at h; first | (simp only[Ii] at h; cases h; done) | (simp[F6,ho] at hc; done))
end
end
end Go.AX
