/- The operations that read memory, and those that write it: what they do to the relation.; Slicing, the length of a map; new blocks.; All that reads; ne -/
import Derived.Test.YtjbledomkmdkmaaGreatP1
set_option linter.unusedVariables false
set_option linter.unusedSimpArgs false
set_option linter.unusedSectionVars false
section
namespace Go.AX
open Go
variable {ρ:Type} {P:Program} [A9]
theorem cell_of {μ:Mu} {σ:Aa} {w:World} (hR:R P μ σ w) {b o:Nat} {v:Value} {k:kT} (hl:Gi σ b o=some v) (hk:μ b=some k):
  ∃ v',w.cell? ⟨k.b,k.o+o,none⟩=some v'∧RV μ v v'∧v.oneCell'=true:=by
 unfold Gi at hl
 split at hl
 ·rename_i vs T rw hb
  obtain ⟨c,T',fz,hx,h1,h2,h3,h4,h5,h6,h7⟩:=hR.obj _ _ _ hb hk
  obtain ⟨v',hv',hr⟩:=h7.get _ _ hl
  have ho:o<k.n:=by
   have:=(List.getElem?_eq_some_iff.1 hl).1; omega
  rw[List.getElem?_take,if_pos ho,List.getElem?_drop] at hv'
  refine ⟨v', ?_,hr,h6 v (List.mem_of_getElem? hl)⟩
  simp only[World.cell?,hx]
  simpa using hv'
 ·cases hl
theorem vc {μ:Mu} {σ:Aa} {w:World} (hR:R P μ σ w) {b:Nat} {k:kT} (hk:μ b=some k):∀ (vs:List Value) (o:Nat),(∀ (j:Nat) (x:Value),vs[j]?=some x→Gi σ b (o+j)=some x) →
  ∃ vs',KE μ vs vs'∧(∀ (j:Nat) (x:Value),vs'[j]?=some x→w.cell? ⟨k.b,k.o+o+j,none⟩=some x)∧(∀ v ∈ vs,v.oneCell'=true)
 | [],o,h=>⟨[],.nil,by simp,by simp⟩
 | v::vs,o,h=>by
   obtain ⟨v',hc,hr,h1⟩:=cell_of hR (h 0 v (by simp)) hk
   obtain ⟨vs',hrs,hcs,hls⟩:=vc hR hk vs (o+1) (fun j x hx=>by have:=h (j+1) x (by simpa using hx); rwa [show o+(j+1)=o+1+j by omega] at this)
   refine ⟨v'::vs',.cons hr hrs, ?_, ?_⟩
   ·intro j x hx
    cases j with
    | zero=>simp at hx; subst hx; simpa using hc
    | succ j=>simp at hx; have:=hcs j x hx; rwa [show k.o+(o+1)+j=k.o+o+(j+1) by omega] at this
   ·intro x hx
    rcases List.mem_cons.1 hx with rfl | hx
    ·exact h1
    ·exact hls x hx
theorem QC {σ:Aa} {b o n:Nat} {vs:List Value} (h:ZA σ b o n=some vs):vs.length=n ∧ ∀ (j:Nat) (x:Value),vs[j]?=some x→Gi σ b (o+j)=some x:=by
 unfold ZA at h
 split at h
 ·rename_i us T rw hb
  split at h
  ·rename_i hle
   cases h
   refine ⟨by simp; omega,fun j x hx=>?_⟩
   rw[List.getElem?_take] at hx
   split at hx
   ·rw[List.getElem?_drop] at hx
    simp only[Gi,hb]; exact hx
   ·cases hx
  ·cases h
 ·cases h
theorem Nd {μ:Mu} {σ:Aa} {w:World} (hR:R P μ σ w) {b o n:Nat} {k:kT} (hk:μ b=some k) {vs:List Value} (hn:vs.length=n) (h:∀ (j:Nat) (x:Value),vs[j]?=some x→Gi σ b (o+j)=some x):
  ∃ vs',KE μ vs vs'∧(loadCells ⟨k.b,k.o+o,none⟩ n).run P w = .ok vs'.toArray w∧(∀ v ∈ vs,v.oneCell'=true):=by
 obtain ⟨vs',hr,hc,hl⟩:=vc hR hk vs o h
 refine ⟨vs',hr, ?_,hl⟩
 have:=run_loadCells_list (P:=P) w ⟨k.b,k.o+o,none⟩ vs' (fun j v hv=>by rw[NM]; exact hc j v hv)
 rwa [← hr.length,hn] at this
theorem pG {μ:Mu} {a:Addr} {v':Value} (h:RV μ (.pointer (some a)) v'):∃ k,μ a.block=some k∧v' = .pointer (some ⟨k.b,k.o+a.off,none⟩):=by
 cases h; exact ⟨_,‹_›,rfl⟩
theorem gO {μ:Mu} {k:IntKind} {n:Int} {v':Value} (h:RV μ (.int k n) v'):v' = .int k n:=by cases h; rfl
theorem kJ {μ:Mu} {r:Nat} {v':Value} (h:RV μ (.map (some r)) v'):∃ k,μ r=some k∧v' = .map (some k.b):=by cases h; exact ⟨_,‹_›,rfl⟩
theorem Y7 {μ:Mu} {v':Value} (h:RV μ (.map none) v'):v' = .map none:=by cases h; rfl
theorem k9 {μ:Mu} {σ:Aa} {w:World} (hR:R P μ σ w) {r:Nat} {es:List (Int × Value)} {k:kT} (hl:Yt σ r=some es) (hk:μ r=some k):
  ∃ entries clock,w.heap[k.b]?=some (.map entries clock)∧fc μ es entries.toList:=by
 unfold Yt at hl
 split at hl
 ·rename_i es' hb
  cases hl
  exact hR.obj _ _ _ hb hk
 ·cases hl
theorem MB {w:World} {b:Nat} {entries:Array MapEntry} {clock:Nat} (h:w.heap[b]?=some (.map entries clock)):(getObj b).run P w = .ok (.map entries clock) w:=by
 simp only[getObj,Sem.run,h]
theorem Zr {T:TypeId} {k:IntKind} {a:Int} {t:IntKind} (hT:P.underlying T=some (.int t)) (b:Bool) (n:Nat) (w:World):(Instr.checkKey b (n+1) T (.int k a)).run P w = .ok () w:=by
 simp[Instr.checkKey,run_underlying hT]
theorem dH {T:TypeId} (h:Aa5 P T=true):P.underlying T=some (.int .i64):=by
 unfold Aa5 at h
 split at h
 ·assumption
 ·cases h
theorem findNow_spec {μ:Mu} {k:Int}:∀ (es:List (Int × Value)) (es':List MapEntry) (i:Nat),fc μ es es' →
  match TN es k with
  | some v=>∃ j e,Instr.findNow (.int .i64) (.int .i64 k) es' i=some (some (i+j,e.val))∧es'[j]?=some e∧e.key = .int .i64 k∧RV μ v e.val∧(∀ v2,VL k v2 es=es.set j (k,v2))∧Sd k es=es.eraseIdx j∧j<es.length
  | none=>Instr.findNow (.int .i64) (.int .i64 k) es' i=some none∧(∀ v2,VL k v2 es=es++[(k,v2)])∧Sd k es=es
 | [],[],i,.nil=>by simp[TN,Instr.findNow,VL,Sd]
 | (k',v)::es,e::es',i,.cons hk hv ht=>by
   by_cases hkk:k=k'
   ·subst hkk
    simp only[TN,List.find?_cons,BEq.rfl,Option.map_some]
    refine ⟨0,e, ?_,by simp,hk,hv,fun v2=>by simp[VL],by simp[Sd],by simp⟩
    simp[Instr.findNow,hk,Instr.sameNow]
   ·have hb:(k == k')=false:=by simpa using hkk
    have ih:=findNow_spec (k:=k) es es' (i+1) ht
    have hg:TN ((k',v)::es) k=TN es k:=by simp[TN,List.find?_cons,hb]
    have hf:Instr.findNow (.int .i64) (.int .i64 k) (e::es') i=Instr.findNow (.int .i64) (.int .i64 k) es' (i+1):=by
     simp[Instr.findNow,hk,Instr.sameNow,hb]
    rw[hg,hf]
    cases hm:TN es k with
    | none=>
      rw[hm] at ih
      exact ⟨ih.1,fun v2=>by simp[VL,hb,ih.2.1 v2],by simp[Sd,hb,ih.2.2]⟩
    | some u=>
      rw[hm] at ih
      obtain ⟨j,e',h1,h2,h3,h4,h5,h6,h7⟩:=ih
      exact ⟨j+1,e',by rw[h1]; congr 3; omega,by simpa using h2,h3,h4,fun v2=>by simp[VL,hb,h5 v2],by simp[Sd,hb,h6],by simp; omega⟩
def ig (P:Program) (o:Oper) (e:Operand→Option Value) (σ:Aa) (v:Value):Prop:=
 ∀ (μ:Mu) (w:World) (f:Operand→Value),R P μ σ w→(∀ x u,e x=some u→RV μ u (f x)) → ∃ v',(execOp f o).run P w = .ok (.value v') w∧RV μ v v'
theorem vJ {T:TypeId} {x:Operand} {call:GM} {q:Bool} {ty:TypeId} {e:Operand→Option Value} {σ:Aa} {K:Value→Aa→Option ρ} {r:ρ} {o:Oper} (ho:o.op = .load T x)
  (h:Kx P call q (.load T x) ty e σ K=some r):∃ v,K v σ=some r∧ig P o e σ v:=by
 simp only[Kx,Option.bind_eq_some_iff] at h
 obtain ⟨v,hv,h⟩:=h
 split at h
 rotate_left
 ·cases h
 simp only[Option.bind_eq_some_iff] at h
 obtain ⟨a,ha,h⟩:=h
 subst ha
 cases hb:NB P T with
 | true=>
   rw[hb] at h
   simp only[cond_true] at h
   split at h
   rotate_left
   ·cases h
   rename_i hsz
   obtain ⟨vs,hl,hvs,h⟩:=rQ h
   refine ⟨_,h,fun μ w f hR hf=>?_⟩
   obtain ⟨k,hk,hfx⟩:=pG (hf x _ hv)
   obtain ⟨vs',hr,hrun,hleaf⟩:=Nd hR hk hl hvs
   obtain ⟨d,hd⟩:∃ d,P.underlying T=some d:=by
    unfold NB at hb; cases hq:P.underlying T with
    | none=>simp[hq] at hb
    | some d=>exact ⟨d,rfl⟩
   refine ⟨.agg vs'.toArray,AK (by simp only[execOp,ho] <;> rfl) ?_,.agg (by simpa using hr) (by simpa using hleaf)⟩
   simp only[hfx,Instr.loadAt,Instr.sureAddr,Sem.run_bind,Sem.run_pure,Result.andThen_ok,loadVar,PL hd,hb,if_true,run_sizeOf hsz,hrun]
 | false=>
   rw[hb] at h
   simp only[cond_false,Option.bind_eq_some_iff] at h
   obtain ⟨d,hd,h⟩:=h
   obtain ⟨u,hu,h⟩:=vB h
   refine ⟨u,h,fun μ w f hR hf=>?_⟩
   obtain ⟨k,hk,hfx⟩:=pG (hf x _ hv)
   obtain ⟨v',hc,hr,_⟩:=cell_of hR hu hk
   refine ⟨v',AK (by simp only[execOp,ho] <;> rfl) ?_,hr⟩
   simp only[hfx,Instr.loadAt,Instr.sureAddr,Sem.run_bind,Sem.run_pure,Result.andThen_ok,loadVar,PL hd,hb,Bool.false_eq_true,if_false,run_load,hc]
theorem xZ {T:TypeId} {m i:Operand} {ok:Bool} {call:GM} {q:Bool} {ty:TypeId} {e:Operand→Option Value} {σ:Aa} {K:Value→Aa→Option ρ} {r:ρ} {o:Oper} (ho:o.op = .lookup T m i ok)
  (h:Kx P call q (.lookup T m i ok) ty e σ K=some r):∃ v,K v σ=some r∧ig P o e σ v:=by
 simp only[Kx,Option.bind_eq_some_iff] at h
 obtain ⟨mv,hm,iv,hi,h⟩:=h
 split at h
 rotate_left
 ·cases h
 rename_i kt E rr k hT
 split at h
 rotate_left
 ·cases h
 rename_i hkt
 simp only[Option.bind_eq_some_iff] at h
 obtain ⟨es,hes,z,hz,h⟩:=h
 have h:=bM h
 refine ⟨_,h,fun μ w f hR hf=>?_⟩
 have hki:=dH hkt
 obtain ⟨hz1,hz2⟩:=MC hz w
 have hfi:=gO (hf i _ hi)
 have key:∃ entries:Array MapEntry,(f m = .map none∧entries = #[] ∨ ∃ kb clock,f m = .map (some kb)∧w.heap[kb]?=some (.map entries clock))∧fc μ es entries.toList:=by
  cases rr with
  | none=>
    cases hes
    exact ⟨#[],.inl ⟨Y7 (hf m _ hm),rfl⟩,.nil⟩
  | some r'=>
    obtain ⟨kb,hkb,hfm⟩:=kJ (hf m _ hm)
    obtain ⟨entries,clock,hh,hre⟩:=k9 hR hes hkb
    exact ⟨entries,.inr ⟨kb.b,clock,hfm,hh⟩,hre⟩
 obtain ⟨entries,hrun,hre⟩:=key
 have hfind:=findNow_spec (k:=k) es entries.toList 0 hre
 have hck:=Zr (P:=P) (k:=.i64) (a:=k) hki entries.isEmpty 9999 w
 cases hg:TN es k with
 | none=>
   rw[hg] at hfind
   refine ⟨if ok then .tuple #[z,.bool false] else z,AK (by simp only[execOp,ho] <;> rfl) ?_, ?_⟩
   ·unfold Instr.lookup
    rw[hfi]
    rcases hrun with ⟨hfm,rfl⟩ | ⟨kb,clock,hfm,hh⟩ <;> rw[hfm]
    ·simp only[Sem.run_bind,run_underlying hT,Result.andThen_ok,hck,Instr.findKey,run_underlying hki,hfind.1,Sem.run_pure,hz1]
    ·simp only[Sem.run_bind,run_underlying hT,Result.andThen_ok,MB hh,hck,Instr.findKey,run_underlying hki,hfind.1,Sem.run_pure,hz1]
   ·cases ok
    ·exact .JU hz2
    ·exact .tuple (.cons (.JU hz2) (.cons (.bool _) .nil))
 | some u=>
   rw[hg] at hfind
   obtain ⟨j,e',h1,h2,h3,h4,h5⟩:=hfind
   refine ⟨if ok then .tuple #[e'.val,.bool true] else e'.val,AK (by simp only[execOp,ho] <;> rfl) ?_, ?_⟩
   ·unfold Instr.lookup
    rw[hfi]
    rcases hrun with ⟨hfm,rfl⟩ | ⟨kb,clock,hfm,hh⟩ <;> rw[hfm]
    ·simp only[Sem.run_bind,run_underlying hT,Result.andThen_ok,hck,Instr.findKey,run_underlying hki,h1,Sem.run_pure]
    ·simp only[Sem.run_bind,run_underlying hT,Result.andThen_ok,MB hh,hck,Instr.findKey,run_underlying hki,h1,Sem.run_pure]
   ·cases ok
    ·exact h4
    ·exact .tuple (.cons h4 (.cons (.bool _) .nil))
theorem gi {x:Option Value} {d top:Nat} {K:Nat→Option ρ} {r:ρ} (h:bound x d top K=some r):
  ∃ n,K n=some r∧((x=none∧n=d) ∨ ∃ k i,x=some (.int k i)∧0≤i∧i≤top∧n=i.toNat):=by
 unfold bound at h
 split at h
 ·exact ⟨d,h,.inl ⟨rfl,rfl⟩⟩
 ·split at h
  ·rename_i k i hh; exact ⟨_,h,.inr ⟨k,i,rfl,hh.1,hh.2,rfl⟩⟩
  ·cases h
 ·cases h
theorem oE {e:Operand→Option Value} {x:Option Operand} {K:Option Value→Option ρ} {r:ρ} (h:evo e x K=some r):
  ∃ v,K v=some r∧((x=none∧v=none) ∨ ∃ y u,x=some y∧e y=some u∧v=some u):=by
 unfold evo at h
 split at h
 ·exact ⟨none,h,.inl ⟨rfl,rfl⟩⟩
 ·simp only[Option.bind_eq_some_iff] at h
  obtain ⟨u,hu,h⟩:=h
  exact ⟨_,h,.inr ⟨_,u,rfl,hu,rfl⟩⟩
end Go.AX
end
section
namespace Go.AX
open Go
variable {ρ:Type} {P:Program} [A9]
theorem Z2 {μ:Mu} {σ:Aa} {w:World} (hR:R P μ σ w) {b:Nat} {E:TypeId} {k:kT} (h:elemAt σ b=some E) (hk:μ b=some k):k.s=P.cellsOf E:=by
 unfold elemAt at h
 split at h
 ·rename_i vs T rw hb
  cases h
  obtain ⟨c,T',fz,hx,h1,h2,h3,h4,_⟩:=hR.obj _ _ _ hb hk
  exact h4
 ·cases h
theorem Mq {E:TypeId} {s:Nat} (h:IW P E=some s):P.cellsOf E=s:=by
 unfold IW at h
 unfold Program.cellsOf
 rw[h]; rfl
theorem cW {μ:Mu} {e:Operand→Option Value} {f:Operand→Value} (hf:∀ x u,e x=some u→RV μ u (f x)) {x:Option Operand} {v:Option Value} {d n top top':Nat} (hv:(x=none∧v=none) ∨ ∃ y u,x=some y∧e y=some u∧v=some u)
  (hn:(v=none∧n=d) ∨ ∃ k i,v=some (.int k i)∧0≤i∧i≤(top:Int)∧n=i.toNat) (ht:top≤top'):
  (x.map f=none∧n=d) ∨ ∃ k i,x.map f=some (.int k i)∧0≤i∧i≤(top':Int)∧n=i.toNat:=by
 rcases hv with ⟨rfl,rfl⟩ | ⟨y,u,rfl,hy,rfl⟩
 ·rcases hn with ⟨_,rfl⟩ | ⟨k,i,hh,_⟩
  ·exact .inl ⟨rfl,rfl⟩
  ·cases hh
 ·rcases hn with ⟨hh,_⟩ | ⟨k,i,hh,h0,h1,rfl⟩
  ·cases hh
  ·cases hh
   have:=gO (hf y _ hy)
   exact .inr ⟨k,i,by simp[this],h0,by omega,rfl⟩
theorem mO {len cap m h l:Nat} {lo hi mx:Option Value} (h1:(mx=none∧m=cap) ∨ ∃ k i,mx=some (.int k i)∧0≤i∧i≤(cap:Int)∧m=i.toNat)
  (h2:(hi=none∧h=len) ∨ ∃ k i,hi=some (.int k i)∧0≤i∧i≤(m:Int)∧h=i.toNat) (h3:(lo=none∧l=0) ∨ ∃ k i,lo=some (.int k i)∧0≤i∧i≤(h:Int)∧l=i.toNat)
  (hmx:mx.isSome=true→hi.isSome=true) (w:World):(Instr.sliceBounds true len cap lo hi mx).run P w = .ok (l,h,m) w:=by
 unfold Instr.sliceBounds
 rcases h1 with ⟨rfl,rfl⟩ | ⟨k1,i1,rfl,a1,b1,rfl⟩
 ·rcases h2 with ⟨rfl,rfl⟩ | ⟨k2,i2,rfl,a2,b2,rfl⟩
  ·rcases h3 with ⟨rfl,rfl⟩ | ⟨k3,i3,rfl,a3,b3,rfl⟩
   ·simp
   ·simp[run_sliceBound w k3 i3 h _ a3 b3]
  ·rcases h3 with ⟨rfl,rfl⟩ | ⟨k3,i3,rfl,a3,b3,rfl⟩
   ·simp[run_sliceBound w k2 i2 m _ a2 b2]
   ·simp[run_sliceBound w k2 i2 m _ a2 b2,run_sliceBound w k3 i3 _ _ a3 b3]
 ·rcases h2 with ⟨rfl,rfl⟩ | ⟨k2,i2,rfl,a2,b2,rfl⟩
  ·simp at hmx
  ·rcases h3 with ⟨rfl,rfl⟩ | ⟨k3,i3,rfl,a3,b3,rfl⟩
   ·simp[run_sliceBound w k1 i1 cap _ a1 b1,run_sliceBound w k2 i2 _ _ a2 b2]
   ·simp[run_sliceBound w k1 i1 cap _ a1 b1,run_sliceBound w k2 i2 _ _ a2 b2,run_sliceBound w k3 i3 _ _ a3 b3]
theorem Abh {T:TypeId} {x:Operand} {lo hi mx:Option Operand} {call:GM} {q:Bool} {ty:TypeId} {e:Operand→Option Value} {σ:Aa} {K:Value→Aa→Option ρ} {r:ρ} {o:Oper} (ho:o.op = .slice T x lo hi mx)
  (h:Kx P call q (.slice T x lo hi mx) ty e σ K=some r):∃ v,K v σ=some r∧ig P o e σ v:=by
 simp only[Kx,Option.bind_eq_some_iff] at h
 obtain ⟨E,hE,s,hs,v,hv,h0⟩:=h
 obtain ⟨lo',h1,hlo⟩:=oE h0
 clear h0
 obtain ⟨hi',h2,hhi⟩:=oE h1
 clear h1
 obtain ⟨mx',h,hmx⟩:=oE h2
 clear h2
 have hT:=Le hE
 cases v with
 | slice a len cap=>
   simp only[Option.bind_eq_some_iff] at h
   obtain ⟨r0,h,hK⟩:=h
   unfold HK at h
   simp only at h
   cases hms:(!mx'.isSome || hi'.isSome) with
   | false=>rw[hms] at h; cases h
   | true=>
     rw[hms] at h
     simp only[cond_true] at h
     obtain ⟨m,h1,hm⟩:=gi h
     clear h
     obtain ⟨hh,h2,hhb⟩:=gi h1
     clear h1
     obtain ⟨l,h,hlb⟩:=gi h2
     clear h2
     have hmsx:∀ f:Operand→Value,(mx.map f).isSome=true→(hi.map f).isSome=true:=by
      intro f hq
      rcases hmx with ⟨rfl,rfl⟩ | ⟨y,u,rfl,_,rfl⟩
      ·simp at hq
      ·rcases hhi with ⟨rfl,rfl⟩ | ⟨y',u',rfl,_,rfl⟩
       ·simp at hms
       ·rfl
     have hlh:l≤hh:=by rcases hlb with ⟨_,rfl⟩ | ⟨_,_,_,_,_,rfl⟩ <;> omega
     have hmcap:m≤cap:=by rcases hm with ⟨_,rfl⟩ | ⟨_,_,_,_,_,rfl⟩ <;> omega
     have hhm:len≤cap→hh≤m:=by
      intro hlc
      rcases hhb with ⟨rfl,rfl⟩ | ⟨_,_,_,_,_,rfl⟩
      ·rcases hm with ⟨_,rfl⟩ | ⟨_,_,rfl,_,_,_⟩
       ·exact hlc
       ·simp at hms
      ·omega
     have main:∀ (μ:Mu) (w:World) (f:Operand→Value),(∀ x u,e x=some u→RV μ u (f x)) → ∀ (a':Option Addr) (c' m':Nat),f x = .slice a' len c' →
       ((mx.map f=none∧m'=c') ∨ ∃ k i,mx.map f=some (.int k i)∧0≤i∧i≤(c':Int)∧m'=i.toNat)→m≤m' →
       (execOp f o).run P w = .ok (.value (.slice (if m'=l then a' else a'.map (·.add (l*s))) (hh-l) (m'-l))) w:=by
      intro μ w f hf a' c' m' hfx hmm hmle
      refine AK (by simp only[execOp,ho] <;> rfl) ?_
      have hb:=mO (P:=P) (len:=len) hmm (cW hf hhi hhb hmle) (cW hf hlo hlb (Nat.le_refl _)) (hmsx f) w
      simp only[hfx,Instr.sliceAt,Instr.slice,Sem.run_bind,run_underlying hT,Result.andThen_ok,hb,run_sizeOf hs,Sem.run_pure]
     by_cases hml:m=l
     ·rw[if_pos hml] at h
      cases a with
      | none=>
        simp only[Option.some.injEq] at h
        subst h
        refine ⟨_,hK,fun μ w f hR hf=>?_⟩
        have hr:=hf x _ hv
        generalize hfx:f x=fx at hr
        cases hr with
        | sliceNil=>
          have h2:=hhm (Nat.le_refl _)
          have hmm:(mx.map f=none∧(0:Nat)=0) ∨ ∃ k i,mx.map f=some (.int k i)∧0≤i∧i≤((0:Nat):Int)∧0=i.toNat:=by
           refine cW hf hmx ?_ (Nat.le_refl 0)
           rcases hm with ⟨g1,g2⟩ | ⟨k,i,g1,g2,g3,g4⟩
           ·exact .inl ⟨g1,rfl⟩
           ·exact .inr ⟨k,i,g1,g2,g3,by omega⟩
          refine ⟨_,main μ w f hf none 0 0 hfx hmm (by omega), ?_⟩
          rw[show hh-l=0 by omega,show 0-l=0 by omega]
          split <;> exact .sliceNil
      | some a'=>
      simp only at h
      cases hmi:mx'.isSome with
      | true=>
        rw[hmi] at h
        simp only[cond_true,Option.some.injEq] at h
        subst h
        refine ⟨_,hK,fun μ w f hR hf=>?_⟩
        have hr:=hf x _ hv
        have hex:∃ k i,mx'=some (.int k i)∧0≤i∧i≤(cap:Int)∧m=i.toNat:=by
         rcases hm with ⟨rfl,_⟩ | hm
         ·simp at hmi
         ·exact hm
        generalize hfx:f x=fx at hr
        have hmm:∀ c',cap≤c'→(mx.map f=none∧m=c') ∨ ∃ k i,mx.map f=some (.int k i)∧0≤i∧i≤(c':Int)∧m=i.toNat:=by
         intro c' hc'
         exact cW (d:=c') hf hmx (.inr hex) hc'
        cases hr with
        | sliceZ y hz=>
          refine ⟨_,main μ w f hf _ 0 m hfx (hmm _ (Nat.le_refl _)) (Nat.le_refl _), ?_⟩
          have:=hhm (Nat.le_refl _)
          rw[if_pos hml,hml,show hh-l=0 by omega,Nat.sub_self]; exact .sliceZ _ rfl
        | slice hk hsp hl hc hm'=>
          refine ⟨_,main μ w f hf _ _ m hfx (hmm _ hc) (Nat.le_refl _), ?_⟩
          have:=hhm hl
          rw[if_pos hml,hml,show hh-l=0 by omega,Nat.sub_self]; exact .sliceZ _ rfl
        | sliceEnd hk hsp hm'=>
          refine ⟨_,main μ w f hf _ _ m hfx (hmm _ (Nat.zero_le _)) (Nat.le_refl _), ?_⟩
          have:=hhm (Nat.le_refl _)
          rw[if_pos hml,hml,show hh-l=0 by omega,Nat.sub_self]; exact .sliceZ _ rfl
      | false=>
        rw[hmi] at h
        simp only[cond_false] at h
        have hmxn:mx'=none:=by simpa using hmi
        subst hmxn
        have hmc:m=cap:=by
         rcases hm with ⟨_,rfl⟩ | ⟨_,_,hx,_⟩
         ·rfl
         ·cases hx
        have hmxf:∀ f:Operand→Value,mx.map f=none:=by
         intro f
         rcases hmx with ⟨rfl,_⟩ | ⟨_,_,_,_,hx⟩
         ·rfl
         ·cases hx
        split at h
        ·rename_i hel
         simp only[Option.some.injEq] at h
         subst h
         refine ⟨_,hK,fun μ w f hR hf=>?_⟩
         have hr:=hf x _ hv
         generalize hfx:f x=fx at hr
         cases hr with
         | @sliceZ _ z y hz=>
           refine ⟨_,main μ w f hf _ 0 0 hfx (.inl ⟨hmxf f,rfl⟩) (by omega), ?_⟩
           have:=hhm (Nat.le_refl _)
           rw[show hh-l=0 by omega,show 0-l=0 by omega,if_pos (by omega)]; exact .sliceZ _ hz
         | @slice _ k' _ _ c' hk hsp hl hc hm'=>
           have hsz:=Z2 hR hel hk
           rw[Mq hs] at hsz
           refine ⟨_,main μ w f hf _ c' c' hfx (.inl ⟨hmxf f,rfl⟩) (by omega), ?_⟩
           have:=hhm hl
           rw[show hh-l=0 by omega]
           split
           ·rename_i hcl
            rw[show c'-l=0 by omega]
            exact .slice hk hsp (Nat.le_refl _) (Nat.le_refl _) (by have:0*k'.s≤c'*k'.s:=Nat.mul_le_mul_right _ (Nat.zero_le _); omega)
           ·simp only[Option.map_some,NM,Nat.add_assoc]
            refine .sliceEnd hk hsp ?_
            rw[hsz,Nat.sub_mul]
            rw[hsz] at hm'
            have:l*s≤c'*s:=Nat.mul_le_mul_right _ (by omega)
            omega
         | @sliceEnd _ k' o' c' hk hsp hm'=>
           refine ⟨_,main μ w f hf _ c' c' hfx (.inl ⟨hmxf f,rfl⟩) (by omega), ?_⟩
           have:=hhm (Nat.le_refl _)
           have hl0:l=0:=by omega
           subst hl0
           rw[show hh-0=0 by omega,Nat.sub_zero]
           split
           ·rename_i hcl
            exact .sliceEnd hk hsp hm'
           ·simp only[Option.map_some,NM,Nat.zero_mul,Nat.add_zero]
            exact .sliceEnd hk hsp hm'
        ·cases h
     ·rw[if_neg hml] at h
      simp only[Option.bind_eq_some_iff] at h
      obtain ⟨a',ha,h⟩:=h
      subst ha
      split at h
      ·rename_i hel
       simp only[Option.some.injEq] at h
       subst h
       refine ⟨_,hK,fun μ w f hR hf=>?_⟩
       have hr:=hf x _ hv
       generalize hfx:f x=fx at hr
       cases hr with
       | sliceZ y hz=>
         have h1:=hhm (Nat.le_refl _)
         exact absurd (show m=l from Nat.le_antisymm (Nat.le_trans hmcap (Nat.zero_le _)) (Nat.le_trans hlh h1)) hml
       | @slice _ k' _ _ c' hk hsp hl hc hm'=>
         have hsz:=Z2 hR hel hk
         rw[Mq hs] at hsz
         have hlm:=hhm hl
         obtain ⟨m',hm1,hm2,hm3⟩:∃ m',((mx.map f=none∧m'=c') ∨ ∃ k i,mx.map f=some (.int k i)∧0≤i∧i≤(c':Int)∧m'=i.toNat)∧m≤m'∧m'≤c':=by
          rcases hm with ⟨rfl,rfl⟩ | ⟨k,i,rfl,h0,h1,rfl⟩
          ·refine ⟨c',.inl ⟨?_,rfl⟩,hc,Nat.le_refl _⟩
           rcases hmx with ⟨rfl,_⟩ | ⟨_,_,_,_,hx⟩
           ·rfl
           ·cases hx
          ·exact ⟨i.toNat,cW hf hmx (.inr ⟨k,i,rfl,h0,h1,rfl⟩) hc,Nat.le_refl _,by omega⟩
         refine ⟨_,main μ w f hf _ c' m' hfx hm1 hm2, ?_⟩
         rw[if_neg (by omega)]
         simp only[Option.map_some,NM,Nat.add_assoc]
         refine RV.slice (a:=⟨a'.block,a'.off+l*s,none⟩) hk rfl (by omega) (by omega) ?_
         rw[hsz,Nat.sub_mul]
         rw[hsz] at hm'
         have:l*s≤m'*s:=Nat.mul_le_mul_right _ (by omega)
         have:m'*s≤c'*s:=Nat.mul_le_mul_right _ (by omega)
         simp only
         omega
       | @sliceEnd _ k' o' c' hk hsp hm'=>
         have h1:=hhm (Nat.le_refl _)
         exact absurd (show m=l from Nat.le_antisymm (Nat.le_trans hmcap (Nat.zero_le _)) (Nat.le_trans hlh h1)) hml
      ·cases h
 | _=>cases h
end Go.AX
end
section
namespace Go.AX
open Go
variable {ρ:Type} {P:Program} [A9]
theorem xY {c:Call} {call:GM} {q:Bool} {ty:TypeId} {e:Operand→Option Value} {σ:Aa} {K:Value→Aa→Option ρ} {r:ρ} {o:Oper} (ho:o.op = .call c) (hb:c.callee = .builtin .len)
  (h:Kx P call q (.call c) ty e σ K=some r):∃ v,K v σ=some r∧ig P o e σ v:=by
 simp only[Kx,hb] at h
 obtain ⟨vs,h1,hvs⟩:=QA h
 clear h
 simp only[Vl,Ajc] at h1
 split at h1
 rotate_left
 ·cases h1
 rename_i t v hts
 split at h1
 ·rename_i n _ hd
  refine ⟨_,h1,fun μ w f hR hf=>?_⟩
  obtain ⟨cs,hex⟩:=DA (f:=f) ho hb
  have hr:=hvs μ f hf
  generalize c.args.toList.map f=l at hr hex
  cases hr with
  | cons h1 h2=>
    cases h2
    refine ⟨_, ?_,.int _ _⟩
    rw[hex,toList_eq hts]
    cases h1 <;> simp[builtin,Builtin.len_,run_underlying hd,goInt]
 ·rename_i s hd
  refine ⟨_,h1,fun μ w f hR hf=>?_⟩
  obtain ⟨cs,hex⟩:=DA (f:=f) ho hb
  have hr:=hvs μ f hf
  generalize c.args.toList.map f=l at hr hex
  cases hr with
  | cons h1 h2=>
    cases h2
    refine ⟨_, ?_,.int _ _⟩
    rw[hex,toList_eq hts]
    cases h1 <;> simp[builtin,Builtin.len_,run_underlying hd,goInt]
 ·rename_i rr hd
  simp only[Option.bind_eq_some_iff] at h1
  obtain ⟨es,hes,h1⟩:=h1
  refine ⟨_,h1,fun μ w f hR hf=>?_⟩
  obtain ⟨cs,hex⟩:=DA (f:=f) ho hb
  have hr:=hvs μ f hf
  generalize c.args.toList.map f=l at hr hex
  clear h1
  cases hr with
  | cons h1 h2=>
    cases h2
    refine ⟨_, ?_,.int _ _⟩
    rw[hex,toList_eq hts]
    cases rr with
    | none=>
      cases hes
      rw[Y7 h1]
      simp[builtin,Builtin.len_,run_underlying hd,goInt]
    | some r'=>
      obtain ⟨kb,hkb,hfm⟩:=kJ h1
      obtain ⟨entries,clock,hh,hre⟩:=k9 hR hes hkb
      have hlen:es.length=entries.size:=by
       have:∀ (a:List (Int × Value)) (b:List MapEntry),fc μ a b→a.length=b.length:=by
        intro a b hab
        induction hab with
        | nil=>rfl
        | cons _ _ _ ih=>simp[ih]
       simpa using this _ _ hre
      rw[hfm]
      simp[builtin,Builtin.len_,run_underlying hd,goInt,MB hh,hlen]
 ·cases h1
theorem tN {o:Oper} {call:GM} {q:Bool} {e:Operand→Option Value} {σ:Aa} {K:Value→Aa→Option ρ} {r:ρ} (hc:Gm P o = .ld)
  (h:Kx P call q o.op o.type e σ K=some r):∃ v,K v σ=some r∧ig P o e σ v:=by
 cases ho:o.op
 case load=>rw[ho] at h; exact vJ ho h
 case lookup=>rw[ho] at h; exact xZ ho h
 case slice=>rw[ho] at h; exact Abh ho h
 case call c=>
  rw[ho] at h
  simp only[Gm,ho] at hc
  split at hc
  ·rename_i b hb
   cases b <;> simp only[q8] at hc <;> first
    | (cases hc; done)
    | skip
   exact xY ho hb h
  ·cases hc
 all_goals (simp[Gm,ho] at hc)
def yJ (P:Program) (μ:Mu) (σ:Aa) (w:World) (v:Value) (σ':Aa) (res:Result Next):Prop:=
 ∃ μ' v' w',(res = .ok (.value v') w'∨(res = .ok .skip w'∧v'=undef))∧RV μ' v v'∧R P μ' σ' w'∧Step μ σ w μ' σ' w'
theorem Aai {μ:Mu} {vs:List Value} {c:Array Value} {T:TypeId} {s b:Nat} (hs:s=P.cellsOf T) (hr:KE μ vs c.toList) (hl:∀ v ∈ vs,v.oneCell'=true):
  qm P μ (.cells vs T true) ⟨b,0,s,vs.length,vs.length⟩ (some (.cells c T)):=by
 have hlen:=hr.length
 refine ⟨c,T,(0,0),rfl,rfl,Nat.le_refl _,by simp at hlen ⊢; omega,hs,fun _=>rfl,hl, ?_⟩
 simp only[List.drop_zero]
 rw[List.take_of_length_le (by omega)]
 exact hr
theorem Yu {μ:Mu} {σ:Aa} {w:World} (hR:R P μ σ w) (hf:Ia μ σ.length (σ.length+1)) {vs:List Value} {c:Array Value} {T:TypeId} (hr:KE μ vs c.toList) (hl:∀ v ∈ vs,v.oneCell'=true)
  {v v':Value} (hv:∀ μ':Mu,μ' σ.length=some ⟨w.heap.size,0,P.cellsOf T,vs.length,vs.length⟩→RV μ' v v'):
  yJ P μ σ w v (σ++[A6.cells vs T true]) (.ok (.value v') (w.alloc (.cells c T))):=by
 refine ⟨μ.put σ.length ⟨w.heap.size,0,P.cellsOf T,vs.length,vs.length⟩,v',_,.inl rfl,hv _ (Mu.FN _ _ _), ?_,Step.alloc rfl⟩
 exact hR.alloc (hf _ (Nat.le_refl _) (Nat.lt_succ_self _)) rfl (Aai rfl hr hl)
def Aj5 (P:Program) (o:Oper) (e:Operand→Option Value) (σ:Aa) (v:Value) (σ':Aa):Prop:=
 ∀ (μ:Mu) (w:World) (f:Operand→Value),R P μ σ w→Ia μ σ.length σ'.length→(∀ x u,e x=some u→RV μ u (f x))→yJ P μ σ w v σ' ((execOp f o).run P w)
theorem XH (z:Array Value) (n:Nat) (hz:0<z.size):((Array.range (n*z.size)).map (fun x=>z[x % z.size]!)).toList=rep n z.toList:=by
 apply List.ext_getElem?
 intro i
 simp only[Array.toList_map,Array.toList_range,List.getElem?_map,List.getElem?_range]
 induction n generalizing i with
 | zero=>simp[AX.rep]
 | succ n ih=>
   have e:AX.rep (n+1) z.toList=z.toList++AX.rep n z.toList:=by simp[AX.rep,List.replicate_succ]
   rw[e]
   by_cases hi:i<z.size
   ·rw[List.getElem?_append_left (by simpa using hi)]
    have:i<(n+1)*z.size:=by rw[Nat.succ_mul]; omega
    simp[List.getElem?_range,this,Nat.mod_eq_of_lt hi,hi]
   ·rw[List.getElem?_append_right (by simpa using Nat.le_of_not_lt hi)]
    simp only[Array.length_toList]
    rw[← ih (i-z.size)]
    have hm:i % z.size=(i-z.size) % z.size:=by
     rw[Nat.mod_eq_sub_mod (Nat.le_of_not_lt hi)]
    by_cases hlt:i<(n+1)*z.size
    ·have:i-z.size<n*z.size:=by rw[Nat.succ_mul] at hlt; omega
     simp[List.getElem?_range,hlt,this,hm]
    ·have:¬ i-z.size<n*z.size:=by rw[Nat.succ_mul] at hlt; omega
     simp[List.getElem?_range,hlt,this]
theorem xW {o:Oper} {call:GM} {q:Bool} {e:Operand→Option Value} {σ:Aa} {K:Value→Aa→Option ρ} {r:ρ} (hc:Gm P o = .al) (hnc:∀ c,o.op ≠ .call c)
  (h:Kx P call q o.op o.type e σ K=some r):∃ v x,K v (σ++[x])=some r∧Aj5 P o e σ v (σ++[x]):=by
 cases ho:o.op
 case call c=>exact absurd ho (hnc c)
 case box T x=>
  rw[ho] at h
  simp only[Kx,Option.bind_eq_some_iff] at h
  obtain ⟨v,hv,h⟩:=h
  cases ht:Hb v with
  | true=>rw[ht] at h; cases h
  | false=>
    rw[ht] at h
    simp only[cond_false] at h
    refine ⟨_,_,h,fun μ w f hR hfr hf=>?_⟩
    obtain ⟨h1,h2,h3⟩:=L5 (hf x v hv) ht
    have hrun:(execOp f o).run P w = .ok (.value (.pointer (some ⟨w.heap.size,0,none⟩))) (w.alloc (.cells (f x).cells T)):=by
     refine AK (by simp only[execOp,ho] <;> rfl) ?_
     simp[Instr.box,newVar,newRow]
    rw[hrun]
    exact Yu hR (by simpa using hfr) h1 h2 fun μ' hμ=>RV.ptr (a:=⟨σ.length,0,none⟩) hμ rfl
 case alloc T=>
  rw[ho] at h
  simp only[Kx,Option.bind_eq_some_iff] at h
  obtain ⟨z,hz,h⟩:=h
  split at h
  ·rename_i htz
   refine ⟨_,_,h,fun μ w f hR hfr hf=>?_⟩
   obtain ⟨hz1,hz2⟩:=MC hz w
   obtain ⟨h1,h2,h3⟩:=L5 (RV.JU (μ:=μ) hz2) htz
   have hrun:(execOp f o).run P w = .ok (.value (.pointer (some ⟨w.heap.size,0,none⟩))) (w.alloc (.cells z.cells T)):=by
    refine AK (by simp only[execOp,ho] <;> rfl) ?_
    simp[Instr.alloc,newVar,newRow,hz1]
   rw[hrun]
   exact Yu hR (by simpa using hfr) h1 h2 fun μ' hμ=>RV.ptr (a:=⟨σ.length,0,none⟩) hμ rfl
  ·cases h
 case buildSlice T n parts=>
  rw[ho] at h
  simp only[Kx,Option.bind_eq_some_iff] at h
  obtain ⟨E,hE,h⟩:=h
  cases hn0:(n == 0) with
  | true=>
    have hn:n=0:=by simpa using hn0
    subst hn
    rw[hn0] at h
    simp only[cond_true] at h
    cases hpe:parts.toList.isEmpty with
    | false=>rw[hpe] at h; cases h
    | true=>
    rw[hpe] at h
    simp only[cond_true,Option.bind_eq_some_iff] at h
    obtain ⟨s,hsz,h⟩:=h
    have hp0:parts = #[]:=by
     apply Array.toList_inj.1; simpa using hpe
    subst hp0
    refine ⟨_,_,h,fun μ w f hR hfr hf=>?_⟩
    have hT:=Le hE
    have hrun:(execOp f o).run P w = .ok (.value (.slice (some ⟨w.heap.size,0,none⟩) 0 0)) (w.alloc (.cells #[] E)):=by
     refine AK (by simp only[execOp,ho] <;> rfl) ?_
     simp[Instr.buildSlice,run_underlying hT,run_sizeOf hsz,Instr.fill,newRow,run_newObj_alloc]
     have e:Array.map (fun _=>(default:Value)) (Array.range 0) = #[]:=by
      apply Array.eq_empty_of_size_eq_zero; simp
     rw[e]
    rw[hrun]
    refine Yu hR (by simpa using hfr) .nil (by simp) fun μ' hμ=>?_
    exact RV.sliceZ (a:=⟨σ.length,0,some 0⟩) (z:=0) _ rfl
  | false=>
  rw[hn0] at h
  simp only[cond_false,Option.bind_eq_some_iff] at h
  obtain ⟨z,hz,h⟩:=h
  obtain ⟨ps,h1,hps⟩:=oF h
  clear h
  split at h1
  ·rename_i hh
   obtain ⟨hsz,hn,hz0,hle,htz⟩:=hh
   simp only[Option.bind_eq_some_iff] at h1
   obtain ⟨cs,hcs,h⟩:=h1
   refine ⟨_,_,h,fun μ w f hR hfr hf=>?_⟩
   obtain ⟨hz1,hz2⟩:=MC hz w
   obtain ⟨g1,g2,g3⟩:=L5 (RV.JU (μ:=μ) hz2) htz
   have hT:=Le hE
   have hrep:=XH z.cells n hz0
   obtain ⟨out',k1,k2,k3,k4⟩:=cn ps _ _ ((Array.range (n*z.cells.size)).map (fun x=>z.cells[x % z.cells.size]!)) cs (hps μ f hf) (by rw[hrep]; exact g1.rep n)
    (by intro v hv; simp only[AX.rep,List.mem_flatten,List.mem_replicate] at hv; obtain ⟨l,⟨_,rfl⟩,hvl⟩:=hv; exact g2 v hvl) hcs
   have hm:(parts.map fun x=>(x.1,f x.2)).toList=parts.toList.map fun p=>(p.1,f p.2):=by simp
   have hrun:(execOp f o).run P w = .ok (.value (.slice (some ⟨w.heap.size,0,none⟩) n n)) (w.alloc (.cells out' E)):=by
    refine AK (by simp only[execOp,ho] <;> rfl) ?_
    have hne:¬ n*z.cells.size=0:=by
     have:=Nat.mul_pos hn hz0; omega
    simp only[Instr.buildSlice,Sem.run_bind,run_underlying hT,Result.andThen_ok,run_sizeOf hsz,Sem.run_ite,if_neg (Nat.not_lt.2 hle),if_neg hne,hz1,Sem.run_pure,hm,k1,newRow,run_newObj_alloc]
   rw[hrun]
   have hcl:cs.length=n*z.cells.size:=by
    rw[k4,← hrep]; simp
   refine Yu hR (by simpa using hfr) k2 k3 fun μ' hμ=>?_
   refine RV.slice (a:=⟨σ.length,0,none⟩) hμ rfl (Nat.le_refl _) (Nat.le_refl _) ?_
   simp only[Mq hsz,hcl]; omega
  ·cases h1
 case makeMap T rs=>
  rw[ho] at h
  cases rs with
  | some x=>simp only[Kx] at h; cases h
  | none=>
    simp only[Kx] at h
    refine ⟨_,_,h,fun μ w f hR hfr hf=>?_⟩
    have hrun:(execOp f o).run P w = .ok (.value (.map (some w.heap.size))) (w.alloc (.map #[] 0)):=by
     refine AK (by simp only[execOp,ho] <;> rfl) ?_
     simp[Instr.makeMap]
    rw[hrun]
    refine ⟨μ.put σ.length ⟨w.heap.size,0,0,0,0⟩,_,_,.inl rfl,RV.map (k:=⟨w.heap.size,0,0,0,0⟩) (Mu.FN _ _ _), ?_,Step.alloc rfl⟩
    exact hR.alloc (hfr _ (Nat.le_refl _) (by simp)) rfl ⟨#[],0,rfl,.nil⟩
 case makeSlice T l c=>
  rw[ho] at h
  simp only[Kx,Option.bind_eq_some_iff] at h
  obtain ⟨E,hE,lv,hl,cv,hcv,h⟩:=h
  split at h
  ·rename_i l' c'
   simp only[Option.bind_eq_some_iff] at h
   obtain ⟨by_,hby,h⟩:=h
   split at h
   ·rename_i hh
    obtain ⟨h0,hlc,hcb,hc40⟩:=hh
    simp only[Option.bind_eq_some_iff] at h
    obtain ⟨z,hz,h⟩:=h
    split at h
    ·rename_i hh
     obtain ⟨hsz,hz0,htz⟩:=hh
     refine ⟨_,_,h,fun μ w f hR hfr hf=>?_⟩
     obtain ⟨hz1,hz2⟩:=MC hz w
     obtain ⟨g1,g2,g3⟩:=L5 (RV.JU (μ:=μ) hz2) htz
     have hT:=Le hE
     have hfl:=gO (hf l _ hl)
     have hfc:=gO (hf c _ hcv)
     have hby':∃ i,P.info? E=some i∧i.bytes=by_:=by unfold bytesOf at hby; simpa using hby
     obtain ⟨i,hi,hib⟩:=hby'
     have wl:IntKind.i64.wrap l'=l':=IntWalk.i64_in _ (by omega)
     have wc:IntKind.i64.wrap c'=c':=IntWalk.i64_in _ (by omega)
     have hrun:(execOp f o).run P w = .ok (.value (.slice (some ⟨w.heap.size,0,none⟩) l'.toNat c'.toNat)) (w.alloc (.cells ((Array.range (c'.toNat*z.cells.size)).map (fun x=>z.cells[x % z.cells.size]!)) E)):=by
      refine AK (by simp only[execOp,ho] <;> rfl) ?_
      have hty:(typeInfo E).run P w = .ok i w:=by simp[typeInfo,hi]
      have hbc:¬ ((by_:Int)*c'>2 ^ 48):=by
       rw[Int.mul_comm]; omega
      simp only[Instr.makeSlice,Sem.run_bind,run_underlying hT,Result.andThen_ok,hfl,hfc,asInt,asIntOf,Sem.run_pure,hty,wl,wc,hib]
      have hcond:((decide (c'<0) || decide ((by_:Int)*c'>2 ^ 48)) || decide (l'<0) || decide (l'>c'))=false:=by
       simp only[Bool.or_eq_false_iff,decide_eq_false_iff_not]; omega
      rw[if_neg (by rw[hcond]; simp)]
      simp only[Sem.run_bind,run_askRoom,Result.andThen_ok,run_sizeOf hsz]
      by_cases hc0:c'.toNat*z.cells.size=0
      ·simp only[hc0,if_true,Sem.run_pure,Result.andThen_ok,newRow,Sem.run_bind,run_newObj_alloc,show Array.range 0=(#[]:Array Nat) from rfl,Array.map_empty]
      ·simp only[hc0,if_false,Sem.run_bind,hz1,Sem.run_pure,Result.andThen_ok,newRow,run_newObj_alloc]
     rw[hrun]
     have hrep:=XH z.cells c'.toNat hz0
     have hlen:(AX.rep c'.toNat z.cells.toList).length=c'.toNat*z.cells.size:=by rw[← hrep]; simp
     refine Yu hR (by simpa using hfr) (by rw[hrep]; exact g1.rep _) ?_ fun μ' hμ=>?_
     ·intro v hv; simp only[AX.rep,List.mem_flatten,List.mem_replicate] at hv; obtain ⟨l,⟨_,rfl⟩,hvl⟩:=hv; exact g2 v hvl
     ·refine RV.slice (a:=⟨σ.length,0,none⟩) hμ rfl (by omega) (Nat.le_refl _) ?_
      simp only[Mq hsz,hlen]; omega
    ·cases h
   ·cases h
  ·cases h
 all_goals (simp[Gm,ho] at hc)
end Go.AX
end
section
namespace Go.AX
open Go
variable {ρ:Type} {P:Program} [A9]
theorem R.upd {μ:Mu} {σ:Aa} {w w':World} (hR:R P μ σ w) {h:Nat} {k:kT} (hk:μ h=some k) (ha:alive σ h) (hwr:Ay σ h) {o':A6} (hsz:w'.heap.size=w.heap.size)
  (hother:∀ b,b≠k.b→w'.heap[b]?=w.heap[b]?) (ho:qm P μ o' k w'.heap[k.b]?):R P μ (σ.set h o') w':=by
 have hal:∀ x,alive (σ.set h o') x→alive σ x:=by
  intro x ⟨o,ho,hd⟩
  by_cases hx:x=h
  ·subst hx; exact ha
  ·rw[List.getElem?_set_ne (Ne.symm hx)] at ho; exact ⟨o,ho,hd⟩
 refine ⟨?_, ?_, ?_⟩
 ·intro x o kx hx hkx
  by_cases hxh:x=h
  ·subst hxh
   rw[hk] at hkx; cases hkx
   obtain ⟨o0,ho0,_⟩:=ha
   have hlt:x<σ.length:=(List.getElem?_eq_some_iff.1 ho0).1
   rw[List.getElem?_set_self hlt] at hx
   cases hx
   exact ho
  ·rw[List.getElem?_set_ne (Ne.symm hxh)] at hx
   by_cases hd:o = .dead
   ·subst hd; trivial
   ·have hne:kx.b≠k.b:=fun he=>hxh (hR.inj x h kx k hkx hk ⟨o,hx,hd⟩ ha (.inr hwr) he)
    rw[hother _ hne]
    exact hR.obj x o kx hx hkx
 ·intro x kx hkx; rw[hsz]; exact hR.lt x kx hkx
 ·have hwal:∀ x,Ay (σ.set h o') x→Ay σ x:=by
   intro x hwx
   by_cases hx:x=h
   ·subst hx; exact hwr
   ·unfold Ay at hwx ⊢
    rwa [List.getElem?_set_ne (Ne.symm hx)] at hwx
  intro a b ka kb h1 h2 h3 h4 h6 h5
  exact hR.inj a b ka kb h1 h2 (hal a h3) (hal b h4) (h6.imp (hwal a) (hwal b)) h5
theorem Step.upd {μ:Mu} {σ:Aa} {w w':World} {h:Nat} {k:kT} (hk:μ h=some k) (hl:h<σ.length) (hw:Ay σ h) {o':A6} (hsz:w'.heap.size=w.heap.size) (ht:w'.tape=w.tape) (hos:w'.os=w.os) (hout:w'.output=w.output)
  (hother:∀ b,b≠k.b→w'.heap[b]?=w.heap[b]?):Step μ σ w μ (σ.set h o') w':=by
 refine ⟨by simp,fun _ _=>rfl, ?_, ?_,by omega,ht,hos,hout, ?_⟩
 ·intro x hx hwx
  by_cases hxh:x=h
  ·subst hxh; exact hw
  ·unfold Ay at hwx ⊢
   rwa [List.getElem?_set_ne (Ne.symm hxh)] at hwx
 ·intro x kx h1 h2; simp at h2; omega
 ·intro b hb hn
  exact hother b fun he=>hn h k hl hk he.symm hw
theorem UN {cs vs:List Value} {o:Nat} (h:o+vs.length≤cs.length) (i:Nat):
  (AL cs o vs)[i]?=if i<o then cs[i]? else if i<o+vs.length then vs[i-o]? else cs[i]?:=by
 unfold AL
 have hl:(cs.take o).length=o:=by simp; omega
 by_cases h1:i<o
 ·rw[if_pos h1,List.append_assoc,List.getElem?_append_left (by omega),List.getElem?_take,if_pos h1]
 ·rw[if_neg h1]
  by_cases h2:i<o+vs.length
  ·rw[if_pos h2,List.getElem?_append_left (by rw[List.length_append]; omega),List.getElem?_append_right (by omega),hl]
  ·rw[if_neg h2,List.getElem?_append_right (by rw[List.length_append]; omega),List.getElem?_drop]
   congr 1
   rw[List.length_append]; omega
theorem uc {cs:List Value} {o:Nat} {v:Value} (h:o<cs.length):cs.set o v=AL cs o [v]:=by
 apply List.ext_getElem?
 intro i
 rw[UN (by simp; omega),List.getElem?_set]
 by_cases h1:o=i
 ·subst h1; simp[h]
 ·simp only[h1,if_false,List.length_singleton]
  by_cases h2:i<o
  ·simp[h2]
  ·have:¬ i<o+1:=by omega
   simp[h2,this]
theorem OE {μ:Mu} {σ:Aa} {w:World} (hR:R P μ σ w) {b o:Nat} {k:kT} (hk:μ b=some k) {cs vs vs':List Value} {T:TypeId} (hb:σ[b]?=some (.cells cs T true)) (hv:KE μ vs vs')
  (hl:∀ v ∈ vs,v.oneCell'=true) (ho:o+vs.length≤cs.length):
  ∃ w',(storeCells ⟨k.b,k.o+o,none⟩ vs').run P w = .ok () w'∧R P μ (σ.set b (.cells (AL cs o vs) T true)) w'∧Step μ σ w μ (σ.set b (.cells (AL cs o vs) T true)) w':=by
 obtain ⟨c,T',fz,hx,h1,h2,h3,h4,h5,h6,h7⟩:=hR.obj _ _ _ hb hk
 have hfz:=h5 rfl
 subst hfz
 have hvl:=hv.length
 have hrun:=run_storeCells_at P k.b (k.o+o) T' vs' 0 c w hx (by omega) (hv.leaf hl)
 have hbl:b<σ.length:=(List.getElem?_eq_some_iff.1 hb).1
 have hal:alive σ b:=⟨_,hb,by simp⟩
 have hwr:Ay σ b:=by unfold Ay; rw[hb]; trivial
 have e:(c.toList.take (k.o+o+0)++vs'++c.toList.drop (k.o+o+0+vs'.length)).toArray.toList=AL c.toList (k.o+o) vs':=by simp[AL]
 refine ⟨_,hrun, ?_, ?_⟩
 ·refine hR.upd hk hal hwr (size_setRow _ _ _) (fun b' hb'=>setRow_other w k.b b' _ hb') ?_
  have hc:(w.setRow k.b (c.toList.take (k.o+o+0)++vs'++c.toList.drop (k.o+o+0+vs'.length)).toArray).heap[k.b]?=some (.cells _ T' (0,0)):=setRow_heap w k.b c _ T' _ hx
  rw[hc]
  have hlen:(AL c.toList (k.o+o) vs').length=c.size:=by rw[Jf (by simp; omega)]; simp
  refine ⟨_,T',(0,0),rfl,by rw[Jf ho]; exact h1,h2, ?_,h4,fun _=>rfl,X3 h6 hl, ?_⟩
  ·rw[← Array.length_toList,e,hlen]; exact h3
  ·rw[e]
   refine KE.xU ?_ ?_
   ·rw[Jf ho,List.length_take,List.length_drop,hlen]; omega
   ·intro i x x' hx1 hx2
    have hi:i<k.n:=by
     have:=(List.getElem?_eq_some_iff.1 hx1).1
     rw[Jf ho] at this; omega
    rw[List.getElem?_take,if_pos hi,List.getElem?_drop,UN (by simp; omega)] at hx2
    rw[UN ho] at hx1
    by_cases c1:i<o
    ·rw[if_pos c1] at hx1
     rw[if_pos (by omega)] at hx2
     obtain ⟨y,hy,hr⟩:=h7.get i x hx1
     rw[List.getElem?_take,if_pos hi,List.getElem?_drop] at hy
     rw[hy] at hx2; cases hx2; exact hr
    ·rw[if_neg c1] at hx1
     rw[if_neg (by omega)] at hx2
     by_cases c2:i<o+vs.length
     ·rw[if_pos c2] at hx1
      rw[if_pos (by omega)] at hx2
      obtain ⟨y,hy,hr⟩:=hv.get _ x hx1
      rw[show k.o+i-(k.o+o)=i-o by omega,hy] at hx2
      cases hx2; exact hr
     ·rw[if_neg c2] at hx1
      rw[if_neg (by omega)] at hx2
      obtain ⟨y,hy,hr⟩:=h7.get i x hx1
      rw[List.getElem?_take,if_pos hi,List.getElem?_drop] at hy
      rw[hy] at hx2; cases hx2; exact hr
 ·exact Step.upd hk hbl hwr (size_setRow _ _ _) rfl rfl rfl (fun b' hb'=>setRow_other w k.b b' _ hb')
theorem VU {w:World} {b:Nat} {entries:Array MapEntry} {clock:Nat} (h:w.heap[b]?=some (.map entries clock)) (x:Obj):(setObj b x).run P w = .ok () { w with heap:=w.heap.setIfInBounds b x }:=by
 simp only[setObj,Sem.run,h]
theorem Tx {μ:Mu} {σ:Aa} {w:World} (hR:R P μ σ w) {h:Nat} {k:kT} (hk:μ h=some k) {es es2:List (Int × Value)} (hb:σ[h]?=some (.map es)) {entries2:Array MapEntry} (clock:Nat) (hre:fc μ es2 entries2.toList):
  R P μ (σ.set h (.map es2)) { w with heap:=w.heap.setIfInBounds k.b (.map entries2 clock) }∧Step μ σ w μ (σ.set h (.map es2)) { w with heap:=w.heap.setIfInBounds k.b (.map entries2 clock) }:=by
 have hbl:h<σ.length:=(List.getElem?_eq_some_iff.1 hb).1
 have hal:alive σ h:=⟨_,hb,by simp⟩
 have hwr:Ay σ h:=by unfold Ay; rw[hb]; trivial
 have hother:∀ b,b≠k.b→(w.heap.setIfInBounds k.b (.map entries2 clock))[b]?=w.heap[b]?:=fun b hb=>by
  rw[Array.getElem?_setIfInBounds,if_neg (Ne.symm hb)]
 refine ⟨hR.upd hk hal hwr (by simp) hother ?_,Step.upd hk hbl hwr (by simp) rfl rfl rfl hother⟩
 have:(w.heap.setIfInBounds k.b (.map entries2 clock))[k.b]?=some (.map entries2 clock):=by
  rw[Array.getElem?_setIfInBounds,if_pos rfl,if_pos (hR.lt _ _ hk)]
 show qm P μ _ k (w.heap.setIfInBounds k.b (.map entries2 clock))[k.b]?
 rw[this]
 exact ⟨entries2,clock,rfl,hre⟩
theorem fc.push {μ:Mu} {k:Int} {v v':Value} (hv:RV μ v v') (born:Nat):∀ {es:List (Int × Value)} {es':List MapEntry},fc μ es es'→fc μ (es++[(k,v)]) (es'++[{ key:=.int .i64 k,val:=v',born:=born }])
 | _,_,.nil=>.cons rfl hv .nil
 | _,_,.cons hk h t=>.cons hk h (fc.push hv born t)
theorem fc.set {μ:Mu} {k:Int} {v v':Value} (hv:RV μ v v'):∀ {es:List (Int × Value)} {es':List MapEntry} (j:Nat),fc μ es es'→fc μ (es.set j (k,v)) (es'.modify j fun e=>{ e with key:=.int .i64 k,val:=v' })
 | _,_,_,.nil=>by simpa using fc.nil
 | _,_,0,.cons hk h t=>.cons rfl hv t
 | _,_,j+1,.cons hk h t=>.cons hk h (fc.set hv j t)
theorem fc.erase {μ:Mu}:∀ {es:List (Int × Value)} {es':List MapEntry} (j:Nat),fc μ es es'→fc μ (es.eraseIdx j) (es'.eraseIdx j)
 | _,_,_,.nil=>by simpa using fc.nil
 | _,_,0,.cons hk h t=>t
 | _,_,j+1,.cons hk h t=>.cons hk h (fc.erase j t)
theorem fc.length {μ:Mu}:∀ {es:List (Int × Value)} {es':List MapEntry},fc μ es es'→es.length=es'.length
 | _,_,.nil=>rfl
 | _,_,.cons _ _ t=>by simp[fc.length t]
def zL (P:Program) (o:Oper) (e:Operand→Option Value) (σ:Aa) (v:Value) (σ':Aa):Prop:=
 ∀ (μ:Mu) (w:World) (f:Operand→Value),R P μ σ w→Ia μ σ.length σ'.length→(∀ x u,e x=some u→RV μ u (f x))→yJ P μ σ w v σ' ((execOp f o).run P w)
theorem TO {o:Oper} {f:Operand→Value} {w w':World} {s:Sem Unit} (h:execOp f o=(do s; pure .skip:Sem Next)) (hs:s.run P w = .ok () w'):
  (execOp f o).run P w = .ok .skip w':=by
 rw[h]; simp[hs]
theorem Y8 {μ:Mu}:RV μ undef undef:=.tuple .nil
theorem Afd {σ σ':Aa} {b o:Nat} {v:Value} (h:K3 σ b o v=some σ'):∃ cs T,σ[b]?=some (.cells cs T true)∧o+[v].length≤cs.length∧σ'=σ.set b (.cells (AL cs o [v]) T true):=by
 unfold K3 at h
 split at h
 ·rename_i cs T hb
  split at h
  ·rename_i ho
   cases h
   exact ⟨cs,T,hb,by simp; omega,by rw[uc ho]⟩
  ·cases h
 ·cases h
theorem YV {σ σ':Aa} {b o:Nat} {vs:List Value} (h:XJ σ b o vs=some σ'):∃ cs T,σ[b]?=some (.cells cs T true)∧o+vs.length≤cs.length∧σ'=σ.set b (.cells (AL cs o vs) T true):=by
 unfold XJ at h
 split at h
 ·rename_i cs T hb
  split at h
  ·rename_i ho
   cases h
   exact ⟨cs,T,hb,ho,rfl⟩
  ·cases h
 ·cases h
theorem Ab2 {σ:Aa} {b o:Nat} {cs vs:List Value} {T:TypeId} (hb:σ[b]?=some (.cells cs T true)) (h:o+vs.length≤cs.length):XJ σ b o vs=some (σ.set b (.cells (AL cs o vs) T true)):=by
 simp only[XJ,hb]
 rw[if_pos h]
theorem Abi {T:TypeId} {x y:Operand} {call:GM} {q:Bool} {ty:TypeId} {e:Operand→Option Value} {σ:Aa} {K:Value→Aa→Option ρ} {r:ρ} {o:Oper} (ho:o.op = .store T x y)
  (h:Kx P call q (.store T x y) ty e σ K=some r):∃ v σ',K v σ'=some r∧σ.length≤σ'.length∧zL P o e σ v σ' ∧ ∃ a,e x=some (.pointer (some a)) ∧ ∀ b,b≠a.block→σ'[b]?=σ[b]?:=by
 simp only[Kx,Option.bind_eq_some_iff] at h
 obtain ⟨v,hv,u,hu,h⟩:=h
 cases v with
 | pointer a0=>
   simp only[Option.bind_eq_some_iff] at h
   obtain ⟨a,ha,h⟩:=h
   subst ha
   have main:∀ (vs:List Value) (σ':Aa),IW P T=some u.cells.size→u.cells.toList=vs→Hb u=false→XJ σ a.block a.off vs=some σ'→zL P o e σ undef σ':=by
    intro vs σ' hsz hvs ht hst μ w f hR hfr hf
    obtain ⟨cs,T',hb,hlen,rfl⟩:=YV hst
    obtain ⟨k,hk,hfx⟩:=pG (hf x _ hv)
    obtain ⟨h1,h2,h3⟩:=L5 (hf y u hu) ht
    rw[hvs] at h1 h2
    obtain ⟨w',hrun,hR',hS⟩:=OE hR hk hb h1 h2 hlen
    refine ⟨μ,undef,w',.inr ⟨?_,rfl⟩,Y8,hR',hS⟩
    refine TO (by simp only[execOp,ho] <;> rfl) ?_
    have hsz':¬ (f y).cells.size≠u.cells.size:=by
     have:=h1.length
     rw[← hvs] at this
     simp at this ⊢; omega
    simp only[hfx,Instr.storeAt,Instr.sureAddr,Sem.run_bind,Sem.run_pure,Result.andThen_ok,storeVar,run_sizeOf hsz]
    rw[if_neg hsz']
    exact hrun
   cases u with
   | agg vs=>
     simp only at h
     split at h
     ·rename_i hsz
      simp only[Option.bind_eq_some_iff] at h
      obtain ⟨σ',hst,h⟩:=h
      refine ⟨_,σ',h, ?_,main vs.toList σ' hsz rfl rfl hst,a,hv, ?_⟩
      ·obtain ⟨cs,T',hb,hlen,rfl⟩:=YV hst
       simp
      ·obtain ⟨cs,T',hb,hlen,rfl⟩:=YV hst
       exact fun b hb=>List.getElem?_set_ne (Ne.symm hb)
     ·cases h
   | tuple vs=>simp at h
   | _=>
     simp only at h
     split at h
     ·rename_i hsz
      simp only[Option.bind_eq_some_iff] at h
      obtain ⟨σ',hst,h⟩:=h
      obtain ⟨cs,T',hb,hlen,rfl⟩:=Afd hst
      exact ⟨_,_,h,by simp,main _ _ hsz rfl rfl (Ab2 hb hlen),a,hv,fun b hb=>List.getElem?_set_ne (Ne.symm hb)⟩
     ·cases h
 | _=>cases h
theorem qO {T:TypeId} {m i y:Operand} {call:GM} {q:Bool} {ty:TypeId} {e:Operand→Option Value} {σ:Aa} {K:Value→Aa→Option ρ} {r:ρ} {o:Oper} (ho:o.op = .mapUpdate T m i y)
  (h:Kx P call q (.mapUpdate T m i y) ty e σ K=some r):∃ v σ',K v σ'=some r∧σ.length≤σ'.length∧zL P o e σ v σ':=by
 simp only[Kx,Option.bind_eq_some_iff] at h
 obtain ⟨mv,hm,kv,hk,u,hu,h⟩:=h
 split at h
 rotate_left
 ·cases h
 rename_i kt E rr k hT
 split at h
 rotate_left
 ·cases h
 rename_i hkt
 simp only[Option.bind_eq_some_iff] at h
 obtain ⟨r',hr',es,hes,h⟩:=h
 subst hr'
 refine ⟨_,_,h,by simp,fun μ w f hR hfr hf=>?_⟩
 have hki:=dH hkt
 obtain ⟨kb,hkb,hfm⟩:=kJ (hf m _ hm)
 have hfi:=gO (hf i _ hk)
 have hru:=hf y u hu
 obtain ⟨entries,clock,hh,hre⟩:=k9 hR hes hkb
 have hb:σ[r']?=some (.map es):=by
  unfold Yt at hes
  split at hes
  ·cases hes; assumption
  ·cases hes
 have hfind:=findNow_spec (k:=k) es entries.toList 0 hre
 have hck:=Zr (P:=P) (k:=.i64) (a:=k) hki false 9999 w
 cases hg:TN es k with
 | none=>
   rw[hg] at hfind
   obtain ⟨h1,h2,h3⟩:=hfind
   have hre2:fc μ (es++[(k,u)]) (entries.push { key:=.int .i64 k,val:=f y,born:=clock }).toList:=by
    rw[Array.toList_push]; exact hre.push hru clock
   obtain ⟨hR',hS⟩:=Tx hR hkb hb (clock+1) hre2
   rw[h2]
   refine ⟨μ,undef,_,.inr ⟨?_,rfl⟩,Y8,hR',hS⟩
   refine TO (by simp only[execOp,ho] <;> rfl) ?_
   simp only[hfm,hfi,Instr.mapUpdate,Sem.run_bind,run_underlying hT,Result.andThen_ok,MB hh,hck,Instr.findKey,run_underlying hki,h1,Sem.run_pure,VU hh]
 | some u0=>
   rw[hg] at hfind
   obtain ⟨j,e',h1,h2,h3,h4,h5,h6,h7⟩:=hfind
   rw[Nat.zero_add] at h1
   have hre2:fc μ (es.set j (k,u)) (entries.modify j fun e=>{ e with key:=.int .i64 k,val:=f y }).toList:=by
    rw[Array.toList_modify]; exact hre.set hru j
   obtain ⟨hR',hS⟩:=Tx hR hkb hb clock hre2
   rw[h5]
   refine ⟨μ,undef,_,.inr ⟨?_,rfl⟩,Y8,hR',hS⟩
   refine TO (by simp only[execOp,ho] <;> rfl) ?_
   have he:entries[j]?=some e':=by simpa using h2
   have hks:(Instr.keyThatStays (.int .i64 k) (.int .i64 k)).run P w = .ok (.int .i64 k) w:=by
    simp[Instr.keyThatStays,Instr.sameBits]
   simp only[hfm,hfi,Instr.mapUpdate,Sem.run_bind,run_underlying hT,Result.andThen_ok,MB hh,hck,Instr.findKey,run_underlying hki,h1,Sem.run_pure,he,Option.map_some,Option.getD_some,h3,hks,VU hh]
end Go.AX
end
