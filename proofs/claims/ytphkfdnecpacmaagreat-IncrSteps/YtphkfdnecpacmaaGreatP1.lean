/- The operations that only compute.; The operations that only compute: one by one.; The operations that only compute: all of them.; The operations that  -/
import Derived.Test.YtphkfdnecpacmaaGreatP0
set_option linter.unusedVariables false
set_option linter.unusedSimpArgs false
set_option linter.unusedSectionVars false
section
namespace Go.AX
open Go
theorem bB {ρ:Type} {k:Kd} {v:Value} {K:Value→Option ρ} {r:ρ} (h:asK k v K=some r):K v=some r:=by
 cases k <;> simp only[asK] at h
 all_goals first
  | exact h
  | (simp only[Option.bind_eq_some_iff] at h
     obtain ⟨n,h1,h2⟩:=h
     cases v <;> simp only[Md,Ey,toStr,Oe,H0,ud] at h1 <;> first
      | (cases h1; done)
      | (cases h1; exact h2)
      | (split at h1
         ·rename_i hk; subst hk; cases h1; exact h2
         ·cases h1))
theorem jG {ρ:Type}:∀ {ks:List Kd} {l:List Value} {K:List Value→Option ρ} {r:ρ},tc ks l K=some r→ks.length≤l.length∧K (l.take ks.length)=some r
 | [],l,K,r,h=>by simpa [tc] using h
 | k::ks,[],K,r,h=>by simp[tc] at h
 | k::ks,v::vs,K,r,h=>by
   simp only[tc,List.head?_cons,Option.bind_some,List.tail_cons] at h
   have:=jG (bB h)
   simpa using this
theorem uK {ρ:Type} {P:Program} {T:TypeId} {v:Value} {K:Value→Option ρ} {r:ρ} (h:asT P T v K=some r):K v=some r:=by
 unfold asT at h
 split at h
 ·cases v <;> simp[toA] at h
  rename_i vs
  obtain ⟨hl,h⟩:=h
  have:=(jG h).2
  rw[← hl,← Array.length_toList,List.take_length] at this
  simpa using this
 ·cases h
 ·exact bB h
 ·cases h
theorem rf {ρ:Type} {P:Program}:∀ {Ts:List TypeId} {l:List Value} {K:List Value→Option ρ} {r:ρ},zL P Ts l K=some r→Ts.length≤l.length∧K (l.take Ts.length)=some r
 | [],l,K,r,h=>by simpa [zL] using h
 | k::ks,[],K,r,h=>by simp[zL] at h
 | k::ks,v::vs,K,r,h=>by
   simp only[zL,List.head?_cons,Option.bind_some,List.tail_cons] at h
   have:=rf (uK h)
   simpa using this
theorem YZ {ρ:Type} {P:Program} {T:TypeId} {v:Value} {K:Value→Option ρ} {r:ρ} (h:Acw P T v K=some r):K v=some r:=by
 unfold Acw at h
 split at h
 ·cases v <;> simp[pV] at h
  rename_i ts _ vs
  obtain ⟨hl,h⟩:=h
  have:=(rf h).2
  rw[Array.length_toList,← hl,← Array.length_toList,List.take_length] at this
  simpa using this
 ·exact uK h
theorem vn {ρ:Type} {k:Kd} {σ:Aa} {b o:Nat} {K:Value→Option ρ} {r:ρ} (h:ldK k σ b o K=some r):∃ v,Gg σ b o=some v∧K v=some r:=by
 cases k <;> simp only[ldK,Df,lk,rH,Lw,Hr,ldM,Option.bind_eq_some_iff] at h
 all_goals first
  | (obtain ⟨v,h1,h2⟩:=h; exact ⟨v,h1,h2⟩)
  | (obtain ⟨n,⟨v,h1,h3⟩,h2⟩:=h
     refine ⟨v,h1, ?_⟩
     cases v <;> simp only[Md,Ey,toStr,Oe,H0,ud] at h3 <;> first
      | (cases h3; done)
      | (cases h3; exact h2)
      | (split at h3
         ·rename_i hk; subst hk; cases h3; exact h2
         ·cases h3))
theorem rF {ρ:Type}:∀ {ks:List Kd} {σ:Aa} {b o:Nat} {K:List Value→Option ρ} {r:ρ},oM ks σ b o K=some r →
  ∃ vs,vs.length=ks.length∧(∀ (j:Nat) (x:Value),vs[j]?=some x→Gg σ b (o+j)=some x)∧K vs=some r
 | [],σ,b,o,K,r,h=>⟨[],rfl,by simp,h⟩
 | k::ks,σ,b,o,K,r,h=>by
   simp only[oM] at h
   obtain ⟨v,h1,h2⟩:=vn h
   obtain ⟨vs,hl,hv,hK⟩:=rF h2
   refine ⟨v::vs,by simp[hl], ?_,hK⟩
   intro j x hx
   cases j with
   | zero=>simp at hx; subst hx; simpa using h1
   | succ j=>simp at hx; have:=hv j x hx; rwa [show o+1+j=o+(j+1) by omega] at this
theorem Q4 {ρ:Type} {e:Operand→Option Value}:∀ {xs:List Operand} {K:List Value→Option ρ} {r:ρ},evs e xs K=some r →
  ∃ vs,K vs=some r ∧ ∀ (μ:Mu) (f:Operand→Value),(∀ x u,e x=some u→RV μ u (f x))→K9 μ vs (xs.map f)
 | [],K,r,h=>⟨[],h,fun _ _ _=>.nil⟩
 | x::xs,K,r,h=>by
   simp only[evs,Option.bind_eq_some_iff] at h
   obtain ⟨v,hv,h⟩:=h
   obtain ⟨vs,hK,hr⟩:=Q4 h
   exact ⟨v::vs,hK,fun μ f hf=>.cons (hf x v hv) (hr μ f hf)⟩
inductive RPs (μ:Mu):List (Nat × Value)→List (Nat × Value)→Prop
 | nil:RPs μ [] []
 | cons {i:Nat} {v v':Value} {vs vs':List (Nat × Value)} (h:RV μ v v') (t:RPs μ vs vs'):RPs μ ((i,v)::vs) ((i,v')::vs')
theorem oz {ρ:Type} {e:Operand→Option Value}:∀ {xs:List (Nat × Operand)} {K:List (Nat × Value)→Option ρ} {r:ρ},evp e xs K=some r →
  ∃ vs,K vs=some r ∧ ∀ (μ:Mu) (f:Operand→Value),(∀ x u,e x=some u→RV μ u (f x))→RPs μ vs (xs.map fun p=>(p.1,f p.2))
 | [],K,r,h=>⟨[],h,fun _ _ _=>.nil⟩
 | (i,x)::xs,K,r,h=>by
   simp only[evp,Option.bind_eq_some_iff] at h
   obtain ⟨v,hv,h⟩:=h
   obtain ⟨vs,hK,hr⟩:=oz h
   exact ⟨(i,v)::vs,hK,fun μ f hf=>.cons (hf x v hv) (hr μ f hf)⟩
theorem run_sizeOf {P:Program} {T:TypeId} {s:Nat} (h:IK P T=some s) (w:World):(sizeOf T).run P w = .ok s w:=by
 unfold IK at h
 cases hi:P.info? T with
 | none=>simp[hi] at h
 | some i=>
   simp[hi] at h
   simp[sizeOf,typeInfo,hi,h]
theorem Mz {P:Program} {T:TypeId} {z:Value} (h:FR P T=some z) (w:World):(zeroValue T).run P w = .ok z w∧JR z=true:=by
 unfold FR at h
 simp only[Option.bind_eq_some_iff] at h
 obtain ⟨i,hi,y,hy,hz⟩:=h
 split at hz
 ·cases hz
  exact ⟨by simp[zeroValue,typeInfo,hi,hy],‹_›⟩
 ·cases hz
theorem PF {P:Program} {T:TypeId} {d:TypeDesc} (h:P.underlying T=some d) (w:World):(isAgg T).run P w = .ok (N5 P T) w:=by
 unfold N5
 simp only[isAgg,Sem.run_bind,run_underlying h,Result.andThen_ok,h]
 cases d <;> rfl
theorem Lt {μ:Mu} {v v':Value} (h:RV μ v v') (ht:GW v=false):K9 μ v.cells.toList v'.cells.toList∧(∀ x ∈ v.cells.toList,x.oneCell'=true)∧GW v'=false:=by
 cases h <;> first
  | (simp[GW] at ht; done)
  | (rename_i h hl; exact ⟨h,hl,rfl⟩)
  | (refine ⟨?_, ?_,rfl⟩
     ·refine .cons ?_ .nil
      first
       | exact .bool _ | exact .int _ _ | exact .string _ | exact .ptrNil | exact .sliceNil | exact .mapNil | exact .nilFunc | exact .nilIface
       | (constructor <;> assumption)
     ·intro x hx; simp[Value.cells] at hx; subst hx; rfl)
def bg (P:Program) (o:Oper) (e:Operand→Option Value) (v:Value):Prop:=
 ∀ (μ:Mu) (w:World) (f:Operand→Value),(∀ x u,e x=some u→RV μ u (f x)) → ∃ v',(execOp f o).run P w = .ok (.value v') w∧RV μ v v'
section
variable {ρ:Type} {P:Program} [AA]
theorem zO {op:BinOp} {k:IntKind} {a b:Int} {K:Value→Option ρ} {r:ρ} (h:Aig op k a b K=some r):
  ∃ v,K v=some r∧JC v=true ∧ ∀ (w:World) T,(binOp op T (.int k a) (.int k b)).run P w = .ok v w:=by
 cases op <;> simp only[Aig] at h
 case quo=>
  split at h
  ·cases h
  ·exact ⟨_,h,rfl,fun w T=>by simp[binOp,Op.intDiv, *]⟩
 case rem=>
  split at h
  ·cases h
  ·exact ⟨_,h,rfl,fun w T=>by simp[binOp,Op.intDiv, *]⟩
 all_goals first
  | (cases h; done)
  | exact ⟨_,h,rfl,fun w T=>by simp[binOp,Op.intArith,Op.intBits,Op.intCmp]⟩
theorem lP {op:BinOp} {k k':IntKind} {a b:Int} {K:Value→Option ρ} {r:ρ} (h:tQ op k a b K=some r):
  ∃ v,K v=some r∧JC v=true ∧ ∀ (w:World) T,(binOp op T (.int k a) (.int k' b)).run P w = .ok v w:=by
 unfold tQ at h
 split at h
 ·cases h
 ·cases op <;> simp only at h
  all_goals first
   | (cases h; done)
   | exact ⟨_,h,rfl,fun w T=>by simp[binOp,Op.shift, *]⟩
theorem zY {T:TypeId} {a b:Value} {t:Bool} (h:xd P T a b=some t) {μ:Mu} {a' b':Value} (ha:RV μ a a') (hb:RV μ b b') (n:Nat) (w:World):
  (Op.equalIn (n+1) T a' b').run P w = .ok t w:=by
 unfold xd at h
 split at h
 ·rename_i hd
  cases ha; cases hb
  split at h
  ·cases h; simp[Op.equalIn,run_underlying hd, *]
  ·cases h
 ·rename_i hd
  cases ha; cases hb; cases h
  simp[Op.equalIn,run_underlying hd]
 ·rename_i hd
  cases ha; cases hb; cases h
  simp[Op.equalIn,run_underlying hd]
 ·cases h
theorem zZ {T:TypeId} {a b:Value} {t:Bool} (h:xd P T a b=some t):∃ d,P.underlying T=some d:=by
 unfold xd at h
 split at h <;> first | (cases h; done) | exact ⟨_,‹_›⟩
theorem vL {T:TypeId} {d:TypeDesc} (hd:P.underlying T=some d) (ha:N5 P T=false) {xs:Array Value} {i:Nat} {v:Value} (hv:xs.toList[i]?=some v) (w:World):
  (part T xs i).run P w = .ok v w:=by
 have:xs[i]?=some v:=by simpa using hv
 simp[part,PF hd,ha,this]
theorem rm {μ:Mu} (n:Nat) (w:World) (xs ys:Array Value):∀ (fs:List Field) (as bs as' bs':List Value) (i:Nat) (t:Bool),ox P fs as bs=some t→bY P i fs=true →
  K9 μ as as'→K9 μ bs bs'→xs.toList.drop i=as'→ys.toList.drop i=bs'→(Op.eqFields (n+1) xs ys fs).run P w = .ok t w
 | [],[],[],as',bs',i,t,h,hf,ha,hb,hx,hy=>by
   simp[ox] at h; subst h; simp[Op.eqFields]
 | f::fs,a::as,b::bs,a'::as',b'::bs',i,t,h,hf,.cons ha1 ha2,.cons hb1 hb2,hx,hy=>by
   simp only[bY,Bool.and_eq_true,bne_iff_ne,ne_eq,beq_iff_eq,Bool.not_eq_true'] at hf
   obtain ⟨⟨⟨hn,ho⟩,hg⟩,hf⟩:=hf
   have hxa:xs.toList[i]?=some a':=by have:=congrArg (·[0]?) hx; simpa using this
   have hyb:ys.toList[i]?=some b':=by have:=congrArg (·[0]?) hy; simpa using this
   have hx':xs.toList.drop (i+1)=as':=by rw[← List.drop_drop,hx]; rfl
   have hy':ys.toList.drop (i+1)=bs':=by rw[← List.drop_drop,hy]; rfl
   have key:∃ t1,xd P f.type a b=some t1∧(t1=true→ox P fs as bs=some t)∧(t1=false→t=false):=by
    cases fs with
    | nil=>
      cases as with
      | nil=>
        cases bs with
        | nil=>refine ⟨t,by simpa [ox] using h,fun e=>by subst e; rfl,fun e=>e⟩
        | cons _ _ =>
          simp only[ox,Option.bind_eq_some_iff] at h
          obtain ⟨t1,h1,h2⟩:=h
          exact ⟨t1,h1,by rintro rfl; first | (simp at h2; done) | simpa using h2,by rintro rfl; simp at h2; exact h2⟩
      | cons _ _=>
        simp only[ox,Option.bind_eq_some_iff] at h
        obtain ⟨t1,h1,h2⟩:=h
        exact ⟨t1,h1,by rintro rfl; first | (simp at h2; done) | simpa using h2,by rintro rfl; simp at h2; exact h2⟩
    | cons _ _=>
       simp only[ox,Option.bind_eq_some_iff] at h
       obtain ⟨t1,h1,h2⟩:=h
       exact ⟨t1,h1,by rintro rfl; first | (simp at h2; done) | simpa using h2,by rintro rfl; simp at h2; exact h2⟩
   obtain ⟨t1,h1,h2,h3⟩:=key
   obtain ⟨d,hd⟩:=zZ h1
   simp only[Op.eqFields,hn,ne_eq,not_false_eq_true,if_true,Sem.run_bind,ho,vL hd hg hxa,vL hd hg hyb,Result.andThen_ok,zY h1 ha1 hb1]
   cases t1
   ·simp[h3 rfl]
   ·simp only[Bool.not_true,Bool.false_eq_true,if_false]
    exact rm n w xs ys fs as bs as' bs' (i+1) t (h2 rfl) hf ha2 hb2 hx' hy'
 | _::_,[],_,_,_,_,_,h,_,_,_,_,_=>by simp[ox] at h
 | _::_,_::_,[],_,_,_,_,h,_,_,_,_,_=>by simp[ox] at h
theorem mw {T e:TypeId} (hd:P.underlying T=some (.pointer e)) (n:Nat) (y:Option Addr) (w:World):(Op.equalIn (n+1) T (.pointer none) (.pointer y)).run P w = .ok y.isNone w:=by
 simp[Op.equalIn,run_underlying hd]
theorem my {T e:TypeId} (hd:P.underlying T=some (.pointer e)) (n:Nat) (y:Option Addr) (w:World):(Op.equalIn (n+1) T (.pointer y) (.pointer none)).run P w = .ok y.isNone w:=by
 cases y <;> simp[Op.equalIn,run_underlying hd]
theorem ir {T e:TypeId} (hd:P.underlying T=some (.slice e)) (n:Nat) (y:Option Addr) (l c l' c':Nat) (w:World):(Op.equalIn (n+1) T (.slice none l c) (.slice y l' c')).run P w = .ok y.isNone w:=by
 simp[Op.equalIn,run_underlying hd]
theorem iu {T e:TypeId} (hd:P.underlying T=some (.slice e)) (n:Nat) (y:Option Addr) (l c l' c':Nat) (w:World):(Op.equalIn (n+1) T (.slice y l c) (.slice none l' c')).run P w = .ok y.isNone w:=by
 cases y <;> simp[Op.equalIn,run_underlying hd]
theorem uW {T:TypeId} {a b:Value} {t:Bool} (h:NW P T a b=some t) {μ:Mu} {a' b':Value} (ha:RV μ a a') (hb:RV μ b b') (w:World) (x y:Operand) (op:BinOp):
  (eqGuard op T x y a' b').run P w = .ok () w∧(Op.equal T a' b').run P w = .ok t w∧(∀ op,binOp op T a' b'=match op with
   | .eql=>do pure (.bool (← Op.equal T a' b'))
   | .neq=>do pure (.bool (!(← Op.equal T a' b')))
   | op=>binOp op T a' b'):=by
 unfold NW at h
 split at h
 ·split at h
  ·rename_i hd
   cases ha; cases hb; cases h
   exact ⟨by cases op <;> simp[eqGuard],run_equalIn_bool' w 9999 T _ _ hd,fun op=>by cases op <;> simp only[binOp]⟩
  ·cases h
 ·split at h
  ·rename_i hd
   cases ha; cases h
   cases hb <;>
    exact ⟨by cases op <;> simp[eqGuard],mw hd 9999 _ w,fun op=>by cases op <;> simp only[binOp]⟩
  ·cases h
 ·split at h
  ·rename_i hd
   cases hb; cases h
   cases ha <;>
    exact ⟨by cases op <;> simp[eqGuard],my hd 9999 _ w,fun op=>by cases op <;> simp only[binOp]⟩
  ·cases h
 ·split at h
  ·rename_i hd
   cases ha; cases h
   cases hb <;>
    exact ⟨by cases op <;> simp[eqGuard],ir hd 9999 _ _ _ _ _ w,fun op=>by cases op <;> simp only[binOp]⟩
  ·cases h
 ·split at h
  ·rename_i hd
   cases hb; cases h
   cases ha <;>
    exact ⟨by cases op <;> simp[eqGuard],iu hd 9999 _ _ _ _ _ w,fun op=>by cases op <;> simp only[binOp]⟩
  ·cases h
 ·split at h
  ·rename_i fs hd
   cases hc:(bY P 0 fs.toList && !P.stoodInHeld T && !P.eqGuardType P.depth T) with
   | false=>rw[hc] at h; cases h
   | true=>
     rw[hc] at h
     simp only[cond_true] at h
     simp only[Bool.and_eq_true,Bool.not_eq_true'] at hc
     obtain ⟨⟨hf,hs⟩,hg⟩:=hc
     have hfo:P.fieldsOf T=fs:=by simp[Program.fieldsOf,hd]
     cases ha with
     | agg ha _=>
       cases hb with
       | agg hb _=>
         refine ⟨run_eqGuard_agg w op T x y _ _ hg, ?_,fun op=>by cases op <;> simp only[binOp]⟩
         show (Op.equalIn (9999+1) T _ _).run P w=_
         rw[run_equalIn_struct w 9999 T _ _ (by rw[hd,hfo]) hs,hfo]
         exact rm 9998 w _ _ fs.toList _ _ _ _ 0 t h hf ha hb (by simp) (by simp)
  ·cases h
 ·cases h
end
end Go.AX
end
section
namespace Go.AX
open Go
variable {ρ:Type} {P:Program} [AA]
theorem zN {op:BinOp} {T:TypeId} {a b:Value} {K:Value→Option ρ} {r:ρ} (h:Aif P op T a b K=some r):
  ∃ v,K v=some r∧JC v=true ∧ ∀ (μ:Mu) (a' b':Value),RV μ a a'→RV μ b b' → ∀ (w:World) (x y:Operand),
   (do eqGuard op T x y a' b'; binOp op T a' b':Sem Value).run P w = .ok v w:=by
 unfold Aif at h
 split at h
 ·rename_i k m k' n
  have hg:∀ (w:World) (x y:Operand),(eqGuard op T x y (.int k m) (.int k' n)).run P w = .ok () w:=fun w x y=>by cases op <;> simp[eqGuard]
  split at h
  ·obtain ⟨v,h1,h2,h3⟩:=lP (P:=P) (k':=k') h
   refine ⟨v,h1,h2,fun μ a' b' ha hb w x y=>?_⟩
   cases ha; cases hb
   simp only[Sem.run_bind,hg,Result.andThen_ok]
   exact h3 w T
  ·obtain ⟨v,h1,h2,h3⟩:=lP (P:=P) (k':=k') h
   refine ⟨v,h1,h2,fun μ a' b' ha hb w x y=>?_⟩
   cases ha; cases hb
   simp only[Sem.run_bind,hg,Result.andThen_ok]
   exact h3 w T
  ·split at h
   ·rename_i hk; subst hk
    obtain ⟨v,h1,h2,h3⟩:=zO (P:=P) h
    refine ⟨v,h1,h2,fun μ a' b' ha hb w x y=>?_⟩
    cases ha; cases hb
    simp only[Sem.run_bind,hg,Result.andThen_ok]
    exact h3 w T
   ·cases h
 ·split at h
  ·simp only[Option.bind_eq_some_iff] at h
   obtain ⟨t,h1,h2⟩:=h
   refine ⟨_,h2,rfl,fun μ a' b' ha hb w x y=>?_⟩
   obtain ⟨g1,g2,g3⟩:=uW h1 ha hb w x y .eql
   simp only[Sem.run_bind,g1,Result.andThen_ok,g3,g2,Sem.run_pure]
  ·simp only[Option.bind_eq_some_iff] at h
   obtain ⟨t,h1,h2⟩:=h
   refine ⟨_,h2,rfl,fun μ a' b' ha hb w x y=>?_⟩
   obtain ⟨g1,g2,g3⟩:=uW h1 ha hb w x y .neq
   simp only[Sem.run_bind,g1,Result.andThen_ok,g3,g2,Sem.run_pure]
  ·cases h
theorem Aew {op:UnOp} {a:Value} {K:Value→Option ρ} {r:ρ} (h:unA op a K=some r):
  ∃ v,K v=some r∧JC v=true ∧ ∀ (μ:Mu) (a':Value),RV μ a a' → ∀ (w:World),(Op.unary op a').run P w = .ok v w:=by
 unfold unA at h
 split at h
 ·exact ⟨_,h,rfl,fun μ a' ha w=>by cases ha; simp[Op.unary]⟩
 ·exact ⟨_,h,rfl,fun μ a' ha w=>by cases ha; simp[Op.unary,Op.intArith]⟩
 ·cases h
theorem Zs {T:TypeId} {f:Nat} {ot:Nat × TypeId} (h:iA P T f=some ot):
  ∃ (fs:Array Field) (x:Field),P.underlying T=some (.struct fs)∧fs[f]?=some x∧x.offset=ot.1∧x.type=ot.2:=by
 unfold iA at h
 split at h
 ·rename_i fs hd
  split at h
  ·rename_i x hx
   cases h
   exact ⟨fs,x,hd,by simpa using hx,rfl,rfl⟩
  ·cases h
 ·cases h
theorem nW {T E:TypeId} {n:Nat} (h:uJ P T=some (n,E)):P.underlying T=some (.array n E):=by
 unfold uJ at h
 split at h
 ·cases h; assumption
 ·cases h
theorem KZ {T E:TypeId} (h:W4 P T=some E):P.underlying T=some (.slice E):=by
 unfold W4 at h
 split at h
 ·cases h; assumption
 ·cases h
theorem NF (b o n:Nat):(⟨b,o,none⟩:Addr).add n=⟨b,o+n,none⟩:=by
 unfold Addr.add; split <;> simp_all
theorem ve (off:Nat):∀ (l:List Value) (k:Nat) (a:Array Value),off+k+l.length≤a.size →
  ((l.zipIdx k).foldl (fun (cs:Array Value) (p:Value × Nat)=>cs.setIfInBounds (off+p.2) p.1) a).toList=a.toList.take (off+k)++l++a.toList.drop (off+k+l.length)
 | [],k,a,h=>by simp
 | v::l,k,a,h=>by
   simp only[List.zipIdx_cons,List.foldl_cons]
   have ih:=ve off l (k+1) (a.setIfInBounds (off+k) v) (by simp at h ⊢; omega)
   rw[ih]
   have e:=list_seg_step a.toList (off+k) v l (by simp at h ⊢; omega)
   simpa [Array.toList_setIfInBounds,Nat.add_assoc] using e
theorem xk (off:Nat) (l a:Array Value) (h:off+l.size≤a.size):
  (l.zipIdx.foldl (fun (cs:Array Value) (p:Value × Nat)=>cs.setIfInBounds (off+p.2) p.1) a).toList=AK a.toList off l.toList:=by
 rw[← Array.foldl_toList,Array.toList_zipIdx]
 have:=ve off l.toList 0 a (by simpa using h)
 simpa [AK] using this
theorem K9.AK {μ:Mu} {cs cs' vs vs':List Value} (h:K9 μ cs cs') (g:K9 μ vs vs') (o:Nat):K9 μ (AK cs o vs) (AK cs' o vs'):=by
 unfold AX.AK
 rw[g.length]
 exact ((h.take o).append g).append (h.drop _)
theorem Xs {cs vs:List Value} {o:Nat} (h:∀ v ∈ cs,v.oneCell'=true) (g:∀ v ∈ vs,v.oneCell'=true):∀ v ∈ AK cs o vs,v.oneCell'=true:=by
 intro v hv
 unfold AX.AK at hv
 simp only[List.mem_append] at hv
 rcases hv with (hv | hv) | hv
 ·exact h v (List.mem_of_mem_take hv)
 ·exact g v hv
 ·exact h v (List.mem_of_mem_drop hv)
theorem Ja {cs vs:List Value} {o:Nat} (h:o+vs.length≤cs.length):(AK cs o vs).length=cs.length:=by
 simp[AK]; omega
theorem ry {place:Nat→Option (Nat × Nat)} {i off:Nat} {v:Value} {cells:Array Value} {rest:List (Nat × Value)} (hp:place i=some (off,v.cells.size)) (h:off+v.cells.size≤cells.size):
  ∃ cells',cells'.toList=AK cells.toList off v.cells.toList∧Instr.fill place cells ((i,v)::rest)=Instr.fill place cells' rest:=by
 refine ⟨_,xk off v.cells cells h, ?_⟩
 simp only[Instr.fill,hp]
 rw[if_neg (by simp; omega)]
theorem lH {μ:Mu} {T:TypeId} {fs:Array Field} (hT:P.underlying T=some (.struct fs)) (place:Nat→Option (Nat × Nat))
  (hp:∀ (i:Nat) (x:Field),fs[i]?=some x → ∀ s,IK P x.type=some s→place i=some (x.offset,s)):
  ∀ (ps ps':List (Nat × Value)) (cs:List Value) (cs':Array Value) (out:List Value),RPs μ ps ps'→K9 μ cs cs'.toList→(∀ v ∈ cs,v.oneCell'=true)→oV P T ps cs=some out →
   ∃ out',Instr.fill place cs' ps'=some out'∧K9 μ out out'.toList∧(∀ v ∈ out,v.oneCell'=true)
 | _,_,cs,cs',out,.nil,hc,hl,h=>by
   simp[oV] at h; subst h
   exact ⟨cs',rfl,hc,hl⟩
 | _,_,cs,cs',out,.cons (i:=i) (v:=v) (v':=v') hv ht,hc,hl,h=>by
   simp only[oV] at h
   split at h
   ·rename_i o t hf
    split at h
    ·rename_i hsz
     obtain ⟨hsz,hfit,htup⟩:=hsz
     obtain ⟨fs',x,hd,hx,ho,htt⟩:=Zs hf
     rw[hT] at hd; cases hd
     simp only at ho htt
     subst ho; subst htt
     have hpl:=hp i x hx _ hsz
     obtain ⟨hv1,hv2,hv3⟩:=Lt hv htup
     have hlen:v'.cells.size=v.cells.size:=by have:=hv1.length; simp at this; omega
     have hcl:=hc.length
     rw[← hlen] at hpl
     obtain ⟨cells',hc',hfill⟩:=ry (rest:=_) hpl (cells:=cs') (by simp at hcl; omega)
     obtain ⟨out',h1,h2,h3⟩:=lH hT place hp _ _ _ cells' out ht (by rw[hc']; exact hc.AK hv1 _) (Xs hl hv2) h
     exact ⟨out',by rw[hfill]; exact h1,h2,h3⟩
    ·cases h
   ·cases h
theorem bX {μ:Mu} {s:Nat}:
  ∀ (ps ps':List (Nat × Value)) (cs:List Value) (cs':Array Value) (out:List Value),RPs μ ps ps'→K9 μ cs cs'.toList→(∀ v ∈ cs,v.oneCell'=true)→jU s ps cs=some out →
   ∃ out',Instr.fill (fun i=>some (i*s,s)) cs' ps'=some out'∧K9 μ out out'.toList∧(∀ v ∈ out,v.oneCell'=true)∧out.length=cs.length
 | _,_,cs,cs',out,.nil,hc,hl,h=>by
   simp[jU] at h; subst h
   exact ⟨cs',rfl,hc,hl,rfl⟩
 | _,_,cs,cs',out,.cons (i:=i) (v:=v) (v':=v') hv ht,hc,hl,h=>by
   simp only[jU] at h
   split at h
   ·rename_i hsz
    obtain ⟨hsz,hfit,htup⟩:=hsz
    obtain ⟨hv1,hv2,hv3⟩:=Lt hv htup
    have hlen:v'.cells.size=v.cells.size:=by have:=hv1.length; simp at this; omega
    have hcl:=hc.length
    obtain ⟨cells',hc',hfill⟩:=ry (place:=fun i=>some (i*s,s)) (rest:=_) (i:=i) (off:=i*s) (v:=v') (cells:=cs') (by simp[hlen,hsz]) (by simp at hcl; omega)
    obtain ⟨out',h1,h2,h3,h4⟩:=bX _ _ _ cells' out ht (by rw[hc']; exact hc.AK hv1 _) (Xs hl hv2) h
    exact ⟨out',by rw[hfill]; exact h1,h2,h3,by rw[h4,Ja (by simpa using hfit)]⟩
   ·cases h
theorem run_places (w:World):∀ (fs:List Field),(∀ f ∈ fs,(P.info? f.type).isSome=true) →
  (fs.mapM fun f=>(do pure (f.offset,← sizeOf f.type):Sem (Nat × Nat))).run P w = .ok (fs.map fun f=>(f.offset,(IK P f.type).getD 0)) w
 | [],_=>by simp
 | f::fs,h=>by
   obtain ⟨i,hi⟩:=Option.isSome_iff_exists.1 (h f (by simp))
   have hs:IK P f.type=some i.size:=by simp[IK,hi]
   have ih:=run_places w fs fun g hg=>h g (by simp[hg])
   simp only[List.mapM_cons,Sem.run_bind,run_sizeOf hs,Result.andThen_ok,Sem.run_pure,List.map_cons,hs,Option.getD_some,ih]
theorem Aav {T:TypeId} {parts:Array (Nat × Operand)} {call:GL} {q:Bool} {ty:TypeId} {e:Operand→Option Value} {σ:Aa} {K:Value→Aa→Option ρ} {r:ρ}
  (h:La P call q (.build T parts) ty e σ K=some r):∃ v,K v σ=some r ∧ ∀ (o:Oper),o.op = .build T parts→bg P o e v:=by
 simp only[La,Option.bind_eq_some_iff] at h
 obtain ⟨z,hz,h⟩:=h
 obtain ⟨ps,h,hps⟩:=oz h
 split at h
 ·rename_i fs hT
  split at h
  ·rename_i hall
   simp only[Option.bind_eq_some_iff] at h
   obtain ⟨cs,hcs,h⟩:=h
   refine ⟨_,h,fun o ho μ w f hf=>?_⟩
   obtain ⟨hz1,hz2⟩:=Mz hz w
   have hpl:=hps μ f hf
   have hzr:RV μ z z:=.JR hz2
   obtain ⟨hzc,hzl,_⟩:=Lt hzr (hall.2)
   have hrun:=run_places (P:=P) w fs.toList (by have:=hall.1; rw[List.all_eq_true] at this; exact this)
   obtain ⟨out',h1,h2,h3⟩:=lH hT (fun i=>(fs.toList.map fun f=>(f.offset,(IK P f.type).getD 0)).toArray[i]?)
    (fun i x hx s hs=>by simp[hx,hs]) _ _ _ z.cells cs hpl hzc hzl hcs
   refine ⟨.agg out', ?_,.agg (by simpa using h2) (by simpa using h3)⟩
   have hm:(parts.map fun x=>(x.1,f x.2)).toList=parts.toList.map fun p=>(p.1,f p.2):=by simp
   have harr:(fs.mapM fun f=>(do pure (f.offset,← sizeOf f.type):Sem (Nat × Nat))).run P w = .ok (fs.toList.map fun f=>(f.offset,(IK P f.type).getD 0)).toArray w:=by
    rw[Array.mapM_eq_mapM_toList]
    simp only[Sem.run_map,hrun,Result.andThen_ok]
   simp only[execOp,ho,Instr.build,Sem.run_bind,hz1,Result.andThen_ok,run_underlying hT,harr,hm,h1,Sem.run_pure]
  ·cases h
 ·rename_i n E hT
  simp only[Option.bind_eq_some_iff] at h
  obtain ⟨s,hs,h⟩:=h
  split at h
  ·rename_i htup
   simp only[Option.bind_eq_some_iff] at h
   obtain ⟨cs,hcs,h⟩:=h
   refine ⟨_,h,fun o ho μ w f hf=>?_⟩
   obtain ⟨hz1,hz2⟩:=Mz hz w
   have hpl:=hps μ f hf
   have hzr:RV μ z z:=.JR hz2
   obtain ⟨hzc,hzl,_⟩:=Lt hzr htup
   obtain ⟨out',h1,h2,h3,_⟩:=bX _ _ _ z.cells cs hpl hzc hzl hcs
   refine ⟨.agg out', ?_,.agg (by simpa using h2) (by simpa using h3)⟩
   have hm:(parts.map fun x=>(x.1,f x.2)).toList=parts.toList.map fun p=>(p.1,f p.2):=by simp
   simp only[execOp,ho,Instr.build,Sem.run_bind,hz1,Result.andThen_ok,run_underlying hT,run_sizeOf hs,hm,h1,Sem.run_pure]
  ·cases h
 ·cases h
end Go.AX
end
section
namespace Go.AX
open Go
variable {ρ:Type} {P:Program} [AA]
theorem AJ {o:Oper} {f:Operand→Value} {w w':World} {v:Value} {s:Sem Value} (h:execOp f o=(do pure (.value (← s)):Sem Next)) (hs:s.run P w = .ok v w'):
  (execOp f o).run P w = .ok (.value v) w':=by
 rw[h]; simp[hs]
theorem D8 {f:Operand→Value} {o:Oper} {c:Call} {b:Builtin} (ho:o.op = .call c) (hb:c.callee = .builtin b):
  ∃ cs,execOp f o=builtin b c.argTypes o.type cs (c.args.toList.map f).toArray:=by
 have:(c.args.toList.map f).toArray=c.args.map f:=by rw[← Array.toList_map,Array.toArray_toList]
 rw[this]
 unfold execOp
 rw[ho]
 refine ⟨c.args.map fun | .const _=>true | _=>false, ?_⟩
 show (do let d ← resolve f c o.type; invoke d.target d.args:Sem Next)=_
 unfold resolve
 rw[hb]
 rfl
theorem toList_eq {α:Type} {a:Array α} {l:List α} (h:a.toList=l):a=l.toArray:=by cases a; simp at h; simp[h]
theorem Ys {o:Oper} {call:GL} {q:Bool} {e:Operand→Option Value} {σ:Aa} {K:Value→Aa→Option ρ} {r:ρ} (hc:GR P o = .pure)
  (h:La P call q o.op o.type e σ K=some r):∃ v,K v σ=some r∧bg P o e v:=by
 cases ho:o.op
 case build T parts=>
  rw[ho] at h
  obtain ⟨v,h1,h2⟩:=Aav h
  exact ⟨v,h1,h2 o ho⟩
 case move x=>
  rw[ho] at h
  simp only[La,Option.bind_eq_some_iff] at h
  obtain ⟨v,hv,h⟩:=h
  exact ⟨v,h,fun μ w f hf=>⟨f x,by simp[execOp,ho],hf x v hv⟩⟩
 case assign x=>
  rw[ho] at h
  simp only[La,Option.bind_eq_some_iff] at h
  obtain ⟨v,hv,h⟩:=h
  exact ⟨v,h,fun μ w f hf=>⟨f x,by simp[execOp,ho],hf x v hv⟩⟩
 case pick c a b=>
  rw[ho] at h
  simp only[La,Option.bind_eq_some_iff] at h
  obtain ⟨v,hv,h⟩:=h
  split at h
  ·simp only[Option.bind_eq_some_iff] at h
   obtain ⟨u,hu,h⟩:=h
   refine ⟨u,h,fun μ w f hf=>⟨f a, ?_,hf a u hu⟩⟩
   have:=hf c _ hv
   cases hfc:f c <;> rw[hfc] at this <;> cases this
   simp[execOp,ho,hfc,asBool]
  ·simp only[Option.bind_eq_some_iff] at h
   obtain ⟨u,hu,h⟩:=h
   refine ⟨u,h,fun μ w f hf=>⟨f b, ?_,hf b u hu⟩⟩
   have:=hf c _ hv
   cases hfc:f c <;> rw[hfc] at this <;> cases this
   simp[execOp,ho,hfc,asBool]
  ·cases h
 case nilCheck x=>
  rw[ho] at h
  simp only[La,Option.bind_eq_some_iff] at h
  obtain ⟨v,hv,h⟩:=h
  unfold Aaq at h
  split at h
  ·simp only[Option.bind_eq_some_iff] at h
   obtain ⟨a,ha,h⟩:=h
   subst ha
   refine ⟨_,h,fun μ w f hf=>?_⟩
   have hr:=hf x _ hv
   refine ⟨f x, ?_,hr⟩
   generalize hfx:f x=fx at hr
   cases hr
   simp[execOp,ho,hfx]
  ·refine ⟨_,h,fun μ w f hf=>?_⟩
   have hr:=hf x _ hv
   refine ⟨f x, ?_,hr⟩
   generalize hfx:f x=fx at hr
   cases hr
   simp[execOp,ho,hfx]
  ·refine ⟨_,h,fun μ w f hf=>?_⟩
   have hr:=hf x _ hv
   refine ⟨f x, ?_,hr⟩
   generalize hfx:f x=fx at hr
   cases hr
   simp[execOp,ho,hfx]
  ·cases h
 case binOp op T x y yT=>
  rw[ho] at h
  simp only[La,Option.bind_eq_some_iff] at h
  obtain ⟨a,ha,b,hb,h⟩:=h
  obtain ⟨v,h1,h2,h3⟩:=zN h
  refine ⟨v,h1,fun μ w f hf=>⟨v, ?_,.JC h2⟩⟩
  exact AJ (by simp only[execOp,ho] <;> rfl) (h3 μ _ _ (hf x a ha) (hf y b hb) w x y)
 case unOp op T x=>
  rw[ho] at h
  simp only[La,Option.bind_eq_some_iff] at h
  obtain ⟨a,ha,h⟩:=h
  obtain ⟨v,h1,h2,h3⟩:=Aew (P:=P) h
  exact ⟨v,h1,fun μ w f hf=>⟨v,AJ (by simp only[execOp,ho] <;> rfl) (h3 μ _ (hf x a ha) w),.JC h2⟩⟩
 case convert s d x=>
  rw[ho] at h
  simp only[La,Option.bind_eq_some_iff] at h
  obtain ⟨a,ha,h⟩:=h
  split at h
  ·rename_i hs hd
   refine ⟨_,h,fun μ w f hf=>⟨_, ?_,.int _ _⟩⟩
   have hr:=hf x _ ha
   generalize hfx:f x=fx at hr
   cases hr
   refine AJ (by simp only[execOp,ho] <;> rfl) ?_
   simp only[hfx,convert,Sem.run_bind,run_underlying hs,run_underlying hd,Result.andThen_ok,Conv.intToInt,Sem.run_pure]
  ·cases h
 case makeInterface T x=>
  rw[ho] at h
  simp only[La,Option.bind_eq_some_iff] at h
  obtain ⟨a,ha,h⟩:=h
  split at h
  ·cases h
  ·rename_i d hn hd
   refine ⟨_,h,fun μ w f hf=>⟨_, ?_,.iface (hf x a ha)⟩⟩
   refine AJ (by simp only[execOp,ho] <;> rfl) ?_
   exact run_makeInterface w T _ (by unfold Program.concrete; rw[hd]; cases d <;> first | rfl | exact absurd rfl (hn _))
  ·cases h
 case makeFunc fn first cap=>
  rw[ho] at h
  simp only[La] at h
  split at h
  ·cases h
  rename_i hny
  obtain ⟨vs,h,h1⟩:=Q4 h
  obtain ⟨us,h,h2⟩:=Q4 h
  refine ⟨_,h,fun μ w f hf=>⟨_,AJ (by simp only[execOp,ho] <;> rfl) rfl, ?_⟩⟩
  exact .func (fun l hl=>hny l hl) (by simpa using h1 μ f hf) (by simpa using h2 μ f hf)
 case fieldAddr T x i=>
  rw[ho] at h
  simp only[La,Option.bind_eq_some_iff] at h
  obtain ⟨ot,hot,v,hv,h⟩:=h
  split at h
  ·simp only[Option.bind_eq_some_iff] at h
   obtain ⟨a,ha,s,hs,h⟩:=h
   split at h
   ·cases h
   ·rename_i hs0
    subst ha
    obtain ⟨fs,fx,hd,hfx,h1,h2⟩:=Zs hot
    refine ⟨_,h,fun μ w f hf=>?_⟩
    have hr:=hf x _ hv
    generalize hfx':f x=fx' at hr
    cases hr with
    | @ptr _ k hk hsp=>
      refine ⟨.pointer (some ⟨k.b,k.o+(a.off+ot.1),none⟩),AJ (by simp only[execOp,ho] <;> rfl) ?_,RV.ptr (a:=⟨a.block,a.off+ot.1,none⟩) hk rfl⟩
      rw[hfx',← Nat.add_assoc]
      simp only[Instr.fieldAt,Sem.run_bind,run_underlying hd,Result.andThen_ok,hfx,Instr.sureAddr,Sem.run_pure,fieldPlace,h2,run_sizeOf hs,Sem.run_ite,if_neg hs0,NF,h1]
  ·cases h
 case field T x i=>
  rw[ho] at h
  simp only[La,Option.bind_eq_some_iff] at h
  obtain ⟨ot,hot,v,hv,h⟩:=h
  obtain ⟨fs,fx,hd,hfx,h1,h2⟩:=Zs hot
  split at h
  ·rename_i vs
   cases hb:N5 P ot.2 with
   | true=>
     rw[hb] at h
     simp only[cond_true,Option.bind_eq_some_iff] at h
     obtain ⟨s,hs,h⟩:=h
     refine ⟨_,h,fun μ w f hf=>?_⟩
     have hr:=hf x _ hv
     generalize hfx':f x=fx' at hr
     cases hr with
     | agg hr hl=>
       rename_i vs'
       obtain ⟨d,hdt⟩:∃ d,P.underlying ot.2=some d:=by
        unfold N5 at hb; cases hq:P.underlying ot.2 with
        | none=>simp[hq] at hb
        | some d=>exact ⟨d,rfl⟩
       refine ⟨.agg (vs'.extract ot.1 (ot.1+s)),AJ (by simp only[execOp,ho] <;> rfl) ?_,.agg ?_ ?_⟩
       ·rw[hfx']
        simp only[Instr.field,Sem.run_bind,run_underlying hd,Result.andThen_ok,hfx,asAgg,Sem.run_pure,part,h2,PF hdt,hb,if_true,run_sizeOf hs,h1]
       ·have:=(hr.drop ot.1).take s
        simpa [List.extract_eq_take_drop] using this
       ·intro y hy
        simp only at hy
        exact hl y (List.mem_of_mem_drop (List.mem_of_mem_take hy))
   | false=>
     rw[hb] at h
     simp only[cond_false,Option.bind_eq_some_iff] at h
     obtain ⟨d,hq,u,hu,h⟩:=h
     refine ⟨u,h,fun μ w f hf=>?_⟩
     have hr:=hf x _ hv
     generalize hfx':f x=fx' at hr
     cases hr with
     | agg hr hl=>
       rename_i vs'
       obtain ⟨u',hu',hru⟩:=hr.get _ _ hu
       refine ⟨u',AJ (by simp only[execOp,ho] <;> rfl) ?_,hru⟩
       rw[hfx']
       have hu'':vs'[ot.1]?=some u':=by simpa using hu'
       simp only[Instr.field,Sem.run_bind,run_underlying hd,Result.andThen_ok,hfx,asAgg,Sem.run_pure,part,h2,PF hq,hb,Bool.false_eq_true,if_false,h1,hu'']
  ·cases h
 case index T x i=>
  rw[ho] at h
  simp only[La,Option.bind_eq_some_iff] at h
  obtain ⟨⟨len,E⟩,hE,v,hv,u,hu,h⟩:=h
  have hT:=nW hE
  split at h
  ·rename_i vs k n
   cases hb:N5 P E with
   | true=>rw[hb] at h; cases h
   | false=>
     rw[hb] at h
     simp only[cond_false] at h
     split at h
     ·rename_i hn
      simp only[Option.bind_eq_some_iff] at h
      obtain ⟨d,hq,s,hs,y,hy,h⟩:=h
      replace h:=bB h
      refine ⟨y,h,fun μ w f hf=>?_⟩
      have hr:=hf x _ hv
      have hi:=hf i _ hu
      generalize hfx:f x=fx at hr
      generalize hfi:f i=fi at hi
      cases hi
      cases hr with
      | agg hr hl=>
        rename_i vs'
        obtain ⟨y',hy',hry⟩:=hr.get _ _ hy
        have hy'':vs'[n.toNat*s]?=some y':=by simpa using hy'
        refine ⟨y',AJ (by simp only[execOp,ho] <;> rfl) ?_,hry⟩
        rw[hfx,hfi]
        simp only[Instr.index,asIntOf,Sem.run_bind,Sem.run_pure,Result.andThen_ok,run_underlying hT]
        rw[if_pos hn]
        simp only[Sem.run_bind,run_sizeOf hs,Result.andThen_ok,part,PF hq,hb,Bool.false_eq_true,if_false,hy'',Sem.run_pure]
     ·cases h
  ·cases h
 case indexAddr T x i=>
  rw[ho] at h
  cases hA:uJ P T with
  | some le=>
    obtain ⟨len,E⟩:=le
    simp only[La,hA,Option.bind_eq_some_iff] at h
    obtain ⟨s,hs,v,hv,u,hu,h⟩:=h
    have hT:=nW hA
    split at h
    ·rename_i a k n
     simp only[Option.bind_eq_some_iff] at h
     obtain ⟨a',ha,h⟩:=h
     subst ha
     split at h
     ·rename_i hn
      refine ⟨_,h,fun μ w f hf=>?_⟩
      have hr:=hf x _ hv
      have hi:=hf i _ hu
      generalize hfx:f x=fx at hr
      generalize hfi:f i=fi at hi
      cases hi
      cases hr with
      | @ptr _ k' hk hsp=>
        refine ⟨.pointer (some ⟨k'.b,k'.o+(a'.off+n.toNat*s),none⟩),AJ (by simp only[execOp,ho] <;> rfl) ?_,RV.ptr (a:=⟨a'.block,a'.off+n.toNat*s,none⟩) hk rfl⟩
        rw[hfx,hfi,← Nat.add_assoc]
        simp only[Instr.indexAt,asIntOf,Sem.run_bind,Sem.run_pure,Result.andThen_ok,run_underlying hT,Instr.sureAddr]
        rw[if_pos hn]
        simp only[Sem.run_bind,run_sizeOf hs,Result.andThen_ok,Sem.run_pure,NF]
     ·cases h
    ·cases h
  | none=>
  simp only[La,hA,Option.bind_eq_some_iff] at h
  obtain ⟨E,hE,s,hs,v,hv,u,hu,h⟩:=h
  have hT:=KZ hE
  split at h
  ·rename_i a len cap k n
   split at h
   ·rename_i hn
    simp only[Option.bind_eq_some_iff] at h
    obtain ⟨a',ha,h⟩:=h
    subst ha
    refine ⟨_,h,fun μ w f hf=>?_⟩
    have hr:=hf x _ hv
    have hi:=hf i _ hu
    generalize hfx:f x=fx at hr
    generalize hfi:f i=fi at hi
    cases hi
    cases hr with
    | @slice _ k' _ _ _ hk hsp hl hc hm=>
      refine ⟨.pointer (some ⟨k'.b,k'.o+(a'.off+n.toNat*s),none⟩),AJ (by simp only[execOp,ho] <;> rfl) ?_,RV.ptr (a:=⟨a'.block,a'.off+n.toNat*s,none⟩) hk rfl⟩
      rw[hfx,hfi,← Nat.add_assoc]
      simp only[Instr.indexAt,asIntOf,Sem.run_bind,Sem.run_pure,Result.andThen_ok,run_underlying hT]
      rw[if_pos hn]
      simp only[Sem.run_bind,run_sizeOf hs,Result.andThen_ok,Sem.run_pure,NF]
    | sliceEnd hk hsp hm=>omega
    | sliceZ y hz=>omega
   ·cases h
  ·cases h
 case extract x i=>
  rw[ho] at h
  simp only[La,Option.bind_eq_some_iff] at h
  obtain ⟨v,hv,h⟩:=h
  split at h
  ·simp only[Option.bind_eq_some_iff] at h
   obtain ⟨u,hu,h⟩:=h
   refine ⟨u,h,fun μ w f hf=>?_⟩
   have hr:=hf x _ hv
   generalize hfx:f x=fx at hr
   cases hr with
   | tuple hr=>
     rename_i vs'
     obtain ⟨u',hu',hru⟩:=hr.get _ _ hu
     refine ⟨u',AJ (by simp only[execOp,ho] <;> rfl) ?_,hru⟩
     have hu'':vs'[i]?=some u':=by simpa using hu'
     simp only[hfx,Instr.extract,hu'',Sem.run_pure]
  ·cases h
 case call c=>
  rw[ho] at h
  simp only[GR,ho] at hc
  split at hc
  ·rename_i b hb
   simp only[La,hb] at h
   obtain ⟨vs,h,hvs⟩:=Q4 h
   cases b <;> simp only[qi] at hc <;> first
    | (cases hc; done)
    | skip
   case len=>
    cases hm:cl P c.argTypes.toList <;> rw[hm] at hc <;> simp only[qi] at hc
    ·simp only[Vb,Air] at h
     split at h
     rotate_left
     ·cases h
     rename_i t v hts
     split at h
     ·rename_i n _ hd
      refine ⟨_,h,fun μ w f hf=>?_⟩
      obtain ⟨cs,hex⟩:=D8 (f:=f) ho hb
      have hr:=hvs μ f hf
      generalize c.args.toList.map f=l at hr hex
      cases hr with
      | cons h1 h2=>
        cases h2
        refine ⟨_, ?_,.int _ _⟩
        rw[hex,toList_eq hts]
        cases h1 <;> simp[builtin,Builtin.len_,run_underlying hd,goInt]
     ·rename_i s hd
      refine ⟨_,h,fun μ w f hf=>?_⟩
      obtain ⟨cs,hex⟩:=D8 (f:=f) ho hb
      have hr:=hvs μ f hf
      generalize c.args.toList.map f=l at hr hex
      cases hr with
      | cons h1 h2=>
        cases h2
        refine ⟨_, ?_,.int _ _⟩
        rw[hex,toList_eq hts]
        cases h1 <;> simp[builtin,Builtin.len_,run_underlying hd,goInt]
     ·rename_i hd
      rw[hts] at hm
      simp[cl,hd] at hm
     ·cases h
    ·cases hc
   case max=>
    simp only[Vb,Aj4] at h
    split at h
    rotate_left
    ·cases h
    rename_i k x k' y
    split at h
    ·rename_i hk; subst hk
     refine ⟨_,h,fun μ w f hf=>?_⟩
     obtain ⟨cs,hex⟩:=D8 (f:=f) ho hb
     have hr:=hvs μ f hf
     generalize c.args.toList.map f=l at hr hex
     cases hr with
     | cons h1 h2=>
       cases h2 with
       | cons h2 h3=>
         cases h3; cases h1; cases h2
         refine ⟨_, ?_,.int _ _⟩
         rw[hex]
         simp[builtin,Builtin.max_,Builtin.max2]
    ·cases h
   case min=>
    simp only[Vb,Aj5] at h
    split at h
    rotate_left
    ·cases h
    rename_i k x k' y
    split at h
    ·rename_i hk; subst hk
     refine ⟨_,h,fun μ w f hf=>?_⟩
     obtain ⟨cs,hex⟩:=D8 (f:=f) ho hb
     have hr:=hvs μ f hf
     generalize c.args.toList.map f=l at hr hex
     cases hr with
     | cons h1 h2=>
       cases h2 with
       | cons h2 h3=>
         cases h3; cases h1; cases h2
         refine ⟨_, ?_,.int _ _⟩
         rw[hex]
         simp[builtin,Builtin.min_,Builtin.min2]
    ·cases h
  ·cases hc
 all_goals (rw[ho] at h; first | (simp only[La] at h; cases h; done) | (simp[GR,ho] at hc; done))
end Go.AX
end
section
namespace Go.AX
open Go
variable {ρ:Type} {P:Program} [AA]
theorem cell_of {μ:Mu} {σ:Aa} {w:World} (hR:R P μ σ w) {b o:Nat} {v:Value} {k:kJ} (hl:Gg σ b o=some v) (hk:μ b=some k):
  ∃ v',w.cell? ⟨k.b,k.o+o,none⟩=some v'∧RV μ v v'∧v.oneCell'=true:=by
 unfold Gg at hl
 split at hl
 ·rename_i vs T rw hb
  obtain ⟨c,T',fz,hx,h1,h2,h3,h4,h5,h6,h7⟩:=hR.obj _ _ _ hb hk
  obtain ⟨v',hv',hr⟩:=h7.get _ _ hl
  have ho:o<k.n:=by
   have:=(List.getElem?_eq_some_iff.1 hl).1; omega
  rw[List.getElem?_take,if_pos ho,List.getElem?_drop] at hv'
  refine ⟨v', ?_,hr,h6 v (List.mem_of_getElem? hl)⟩
  simp only[World.cell?,hx]
  simpa using hv'
 ·cases hl
theorem uO {μ:Mu} {σ:Aa} {w:World} (hR:R P μ σ w) {b:Nat} {k:kJ} (hk:μ b=some k):∀ (vs:List Value) (o:Nat),(∀ (j:Nat) (x:Value),vs[j]?=some x→Gg σ b (o+j)=some x) →
  ∃ vs',K9 μ vs vs'∧(∀ (j:Nat) (x:Value),vs'[j]?=some x→w.cell? ⟨k.b,k.o+o+j,none⟩=some x)∧(∀ v ∈ vs,v.oneCell'=true)
 | [],o,h=>⟨[],.nil,by simp,by simp⟩
 | v::vs,o,h=>by
   obtain ⟨v',hc,hr,h1⟩:=cell_of hR (h 0 v (by simp)) hk
   obtain ⟨vs',hrs,hcs,hls⟩:=uO hR hk vs (o+1) (fun j x hx=>by have:=h (j+1) x (by simpa using hx); rwa [show o+(j+1)=o+1+j by omega] at this)
   refine ⟨v'::vs',.cons hr hrs, ?_, ?_⟩
   ·intro j x hx
    cases j with
    | zero=>simp at hx; subst hx; simpa using hc
    | succ j=>simp at hx; have:=hcs j x hx; rwa [show k.o+(o+1)+j=k.o+o+(j+1) by omega] at this
   ·intro x hx
    rcases List.mem_cons.1 hx with rfl | hx
    ·exact h1
    ·exact hls x hx
theorem Q6 {σ:Aa} {b o n:Nat} {vs:List Value} (h:Z1 σ b o n=some vs):vs.length=n ∧ ∀ (j:Nat) (x:Value),vs[j]?=some x→Gg σ b (o+j)=some x:=by
 unfold Z1 at h
 split at h
 ·rename_i us T rw hb
  split at h
  ·rename_i hle
   cases h
   refine ⟨by simp; omega,fun j x hx=>?_⟩
   rw[List.getElem?_take] at hx
   split at hx
   ·rw[List.getElem?_drop] at hx
    simp only[Gg,hb]; exact hx
   ·cases hx
  ·cases h
 ·cases h
theorem MX {μ:Mu} {σ:Aa} {w:World} (hR:R P μ σ w) {b o n:Nat} {k:kJ} (hk:μ b=some k) {vs:List Value} (hn:vs.length=n) (h:∀ (j:Nat) (x:Value),vs[j]?=some x→Gg σ b (o+j)=some x):
  ∃ vs',K9 μ vs vs'∧(loadCells ⟨k.b,k.o+o,none⟩ n).run P w = .ok vs'.toArray w∧(∀ v ∈ vs,v.oneCell'=true):=by
 obtain ⟨vs',hr,hc,hl⟩:=uO hR hk vs o h
 refine ⟨vs',hr, ?_,hl⟩
 have:=run_loadCells_list (P:=P) w ⟨k.b,k.o+o,none⟩ vs' (fun j v hv=>by rw[NF]; exact hc j v hv)
 rwa [← hr.length,hn] at this
theorem pq {μ:Mu} {a:Addr} {v':Value} (h:RV μ (.pointer (some a)) v'):∃ k,μ a.block=some k∧v' = .pointer (some ⟨k.b,k.o+a.off,none⟩):=by
 cases h; exact ⟨_,‹_›,rfl⟩
theorem gC {μ:Mu} {k:IntKind} {n:Int} {v':Value} (h:RV μ (.int k n) v'):v' = .int k n:=by cases h; rfl
theorem kz {μ:Mu} {r:Nat} {v':Value} (h:RV μ (.map (some r)) v'):∃ k,μ r=some k∧v' = .map (some k.b):=by cases h; exact ⟨_,‹_›,rfl⟩
theorem Y1 {μ:Mu} {v':Value} (h:RV μ (.map none) v'):v' = .map none:=by cases h; rfl
theorem kh {μ:Mu} {σ:Aa} {w:World} (hR:R P μ σ w) {r:Nat} {es:List (Int × Value)} {k:kJ} (hl:Yn σ r=some es) (hk:μ r=some k):
  ∃ entries clock,w.heap[k.b]?=some (.map entries clock)∧ez μ es entries.toList:=by
 unfold Yn at hl
 split at hl
 ·rename_i es' hb
  cases hl
  exact hR.obj _ _ _ hb hk
 ·cases hl
theorem My {w:World} {b:Nat} {entries:Array MapEntry} {clock:Nat} (h:w.heap[b]?=some (.map entries clock)):(getObj b).run P w = .ok (.map entries clock) w:=by
 simp only[getObj,Sem.run,h]
theorem Zg {T:TypeId} {k:IntKind} {a:Int} {t:IntKind} (hT:P.underlying T=some (.int t)) (b:Bool) (n:Nat) (w:World):(Instr.checkKey b (n+1) T (.int k a)).run P w = .ok () w:=by
 simp[Instr.checkKey,run_underlying hT]
theorem dw {T:TypeId} (h:Aam P T=true):P.underlying T=some (.int .i64):=by
 unfold Aam at h
 split at h
 ·assumption
 ·cases h
theorem findNow_spec {μ:Mu} {k:Int}:∀ (es:List (Int × Value)) (es':List MapEntry) (i:Nat),ez μ es es' →
  match TF es k with
  | some v=>∃ j e,Instr.findNow (.int .i64) (.int .i64 k) es' i=some (some (i+j,e.val))∧es'[j]?=some e∧e.key = .int .i64 k∧RV μ v e.val∧(∀ v2,VC k v2 es=es.set j (k,v2))∧RU k es=es.eraseIdx j∧j<es.length
  | none=>Instr.findNow (.int .i64) (.int .i64 k) es' i=some none∧(∀ v2,VC k v2 es=es++[(k,v2)])∧RU k es=es
 | [],[],i,.nil=>by simp[TF,Instr.findNow,VC,RU]
 | (k',v)::es,e::es',i,.cons hk hv ht=>by
   by_cases hkk:k=k'
   ·subst hkk
    simp only[TF,List.find?_cons,BEq.rfl,Option.map_some]
    refine ⟨0,e, ?_,by simp,hk,hv,fun v2=>by simp[VC],by simp[RU],by simp⟩
    simp[Instr.findNow,hk,Instr.sameNow]
   ·have hb:(k == k')=false:=by simpa using hkk
    have ih:=findNow_spec (k:=k) es es' (i+1) ht
    have hg:TF ((k',v)::es) k=TF es k:=by simp[TF,List.find?_cons,hb]
    have hf:Instr.findNow (.int .i64) (.int .i64 k) (e::es') i=Instr.findNow (.int .i64) (.int .i64 k) es' (i+1):=by
     simp[Instr.findNow,hk,Instr.sameNow,hb]
    rw[hg,hf]
    cases hm:TF es k with
    | none=>
      rw[hm] at ih
      exact ⟨ih.1,fun v2=>by simp[VC,hb,ih.2.1 v2],by simp[RU,hb,ih.2.2]⟩
    | some u=>
      rw[hm] at ih
      obtain ⟨j,e',h1,h2,h3,h4,h5,h6,h7⟩:=ih
      exact ⟨j+1,e',by rw[h1]; congr 3; omega,by simpa using h2,h3,h4,fun v2=>by simp[VC,hb,h5 v2],by simp[RU,hb,h6],by simp; omega⟩
def mZ (P:Program) (o:Oper) (e:Operand→Option Value) (σ:Aa) (v:Value):Prop:=
 ∀ (μ:Mu) (w:World) (f:Operand→Value),R P μ σ w→(∀ x u,e x=some u→RV μ u (f x)) → ∃ v',(execOp f o).run P w = .ok (.value v') w∧RV μ v v'
theorem vx {T:TypeId} {x:Operand} {call:GL} {q:Bool} {ty:TypeId} {e:Operand→Option Value} {σ:Aa} {K:Value→Aa→Option ρ} {r:ρ} {o:Oper} (ho:o.op = .load T x)
  (h:La P call q (.load T x) ty e σ K=some r):∃ v,K v σ=some r∧mZ P o e σ v:=by
 simp only[La,Option.bind_eq_some_iff] at h
 obtain ⟨v,hv,h⟩:=h
 split at h
 rotate_left
 ·cases h
 simp only[Option.bind_eq_some_iff] at h
 obtain ⟨a,ha,h⟩:=h
 subst ha
 cases hb:N5 P T with
 | true=>
   rw[hb] at h
   simp only[cond_true] at h
   split at h
   rotate_left
   ·cases h
   rename_i hsz
   obtain ⟨vs,hl,hvs,h⟩:=rF h
   refine ⟨_,h,fun μ w f hR hf=>?_⟩
   obtain ⟨k,hk,hfx⟩:=pq (hf x _ hv)
   obtain ⟨vs',hr,hrun,hleaf⟩:=MX hR hk hl hvs
   obtain ⟨d,hd⟩:∃ d,P.underlying T=some d:=by
    unfold N5 at hb; cases hq:P.underlying T with
    | none=>simp[hq] at hb
    | some d=>exact ⟨d,rfl⟩
   refine ⟨.agg vs'.toArray,AJ (by simp only[execOp,ho] <;> rfl) ?_,.agg (by simpa using hr) (by simpa using hleaf)⟩
   simp only[hfx,Instr.loadAt,Instr.sureAddr,Sem.run_bind,Sem.run_pure,Result.andThen_ok,loadVar,PF hd,hb,if_true,run_sizeOf hsz,hrun]
 | false=>
   rw[hb] at h
   simp only[cond_false,Option.bind_eq_some_iff] at h
   obtain ⟨d,hd,h⟩:=h
   obtain ⟨u,hu,h⟩:=vn h
   refine ⟨u,h,fun μ w f hR hf=>?_⟩
   obtain ⟨k,hk,hfx⟩:=pq (hf x _ hv)
   obtain ⟨v',hc,hr,_⟩:=cell_of hR hu hk
   refine ⟨v',AJ (by simp only[execOp,ho] <;> rfl) ?_,hr⟩
   simp only[hfx,Instr.loadAt,Instr.sureAddr,Sem.run_bind,Sem.run_pure,Result.andThen_ok,loadVar,PF hd,hb,Bool.false_eq_true,if_false,run_load,hc]
theorem xH {T:TypeId} {m i:Operand} {ok:Bool} {call:GL} {q:Bool} {ty:TypeId} {e:Operand→Option Value} {σ:Aa} {K:Value→Aa→Option ρ} {r:ρ} {o:Oper} (ho:o.op = .lookup T m i ok)
  (h:La P call q (.lookup T m i ok) ty e σ K=some r):∃ v,K v σ=some r∧mZ P o e σ v:=by
 simp only[La,Option.bind_eq_some_iff] at h
 obtain ⟨mv,hm,iv,hi,h⟩:=h
 split at h
 rotate_left
 ·cases h
 rename_i kt E rr k hT
 split at h
 rotate_left
 ·cases h
 rename_i hkt
 simp only[Option.bind_eq_some_iff] at h
 obtain ⟨es,hes,z,hz,h⟩:=h
 have h:=bB h
 refine ⟨_,h,fun μ w f hR hf=>?_⟩
 have hki:=dw hkt
 obtain ⟨hz1,hz2⟩:=Mz hz w
 have hfi:=gC (hf i _ hi)
 have key:∃ entries:Array MapEntry,(f m = .map none∧entries = #[] ∨ ∃ kb clock,f m = .map (some kb)∧w.heap[kb]?=some (.map entries clock))∧ez μ es entries.toList:=by
  cases rr with
  | none=>
    cases hes
    exact ⟨#[],.inl ⟨Y1 (hf m _ hm),rfl⟩,.nil⟩
  | some r'=>
    obtain ⟨kb,hkb,hfm⟩:=kz (hf m _ hm)
    obtain ⟨entries,clock,hh,hre⟩:=kh hR hes hkb
    exact ⟨entries,.inr ⟨kb.b,clock,hfm,hh⟩,hre⟩
 obtain ⟨entries,hrun,hre⟩:=key
 have hfind:=findNow_spec (k:=k) es entries.toList 0 hre
 have hck:=Zg (P:=P) (k:=.i64) (a:=k) hki entries.isEmpty 9999 w
 cases hg:TF es k with
 | none=>
   rw[hg] at hfind
   refine ⟨if ok then .tuple #[z,.bool false] else z,AJ (by simp only[execOp,ho] <;> rfl) ?_, ?_⟩
   ·unfold Instr.lookup
    rw[hfi]
    rcases hrun with ⟨hfm,rfl⟩ | ⟨kb,clock,hfm,hh⟩ <;> rw[hfm]
    ·simp only[Sem.run_bind,run_underlying hT,Result.andThen_ok,hck,Instr.findKey,run_underlying hki,hfind.1,Sem.run_pure,hz1]
    ·simp only[Sem.run_bind,run_underlying hT,Result.andThen_ok,My hh,hck,Instr.findKey,run_underlying hki,hfind.1,Sem.run_pure,hz1]
   ·cases ok
    ·exact .JR hz2
    ·exact .tuple (.cons (.JR hz2) (.cons (.bool _) .nil))
 | some u=>
   rw[hg] at hfind
   obtain ⟨j,e',h1,h2,h3,h4,h5⟩:=hfind
   refine ⟨if ok then .tuple #[e'.val,.bool true] else e'.val,AJ (by simp only[execOp,ho] <;> rfl) ?_, ?_⟩
   ·unfold Instr.lookup
    rw[hfi]
    rcases hrun with ⟨hfm,rfl⟩ | ⟨kb,clock,hfm,hh⟩ <;> rw[hfm]
    ·simp only[Sem.run_bind,run_underlying hT,Result.andThen_ok,hck,Instr.findKey,run_underlying hki,h1,Sem.run_pure]
    ·simp only[Sem.run_bind,run_underlying hT,Result.andThen_ok,My hh,hck,Instr.findKey,run_underlying hki,h1,Sem.run_pure]
   ·cases ok
    ·exact h4
    ·exact .tuple (.cons h4 (.cons (.bool _) .nil))
theorem fQ {x:Option Value} {d top:Nat} {K:Nat→Option ρ} {r:ρ} (h:bound x d top K=some r):
  ∃ n,K n=some r∧((x=none∧n=d) ∨ ∃ k i,x=some (.int k i)∧0≤i∧i≤top∧n=i.toNat):=by
 unfold bound at h
 split at h
 ·exact ⟨d,h,.inl ⟨rfl,rfl⟩⟩
 ·split at h
  ·rename_i k i hh; exact ⟨_,h,.inr ⟨k,i,rfl,hh.1,hh.2,rfl⟩⟩
  ·cases h
 ·cases h
theorem oy {e:Operand→Option Value} {x:Option Operand} {K:Option Value→Option ρ} {r:ρ} (h:evo e x K=some r):
  ∃ v,K v=some r∧((x=none∧v=none) ∨ ∃ y u,x=some y∧e y=some u∧v=some u):=by
 unfold evo at h
 split at h
 ·exact ⟨none,h,.inl ⟨rfl,rfl⟩⟩
 ·simp only[Option.bind_eq_some_iff] at h
  obtain ⟨u,hu,h⟩:=h
  exact ⟨_,h,.inr ⟨_,u,rfl,hu,rfl⟩⟩
end Go.AX
end
section
namespace Go.AX
open Go
variable {ρ:Type} {P:Program} [AA]
theorem Zr {μ:Mu} {σ:Aa} {w:World} (hR:R P μ σ w) {b:Nat} {E:TypeId} {k:kJ} (h:elemAt σ b=some E) (hk:μ b=some k):k.s=P.cellsOf E:=by
 unfold elemAt at h
 split at h
 ·rename_i vs T rw hb
  cases h
  obtain ⟨c,T',fz,hx,h1,h2,h3,h4,_⟩:=hR.obj _ _ _ hb hk
  exact h4
 ·cases h
theorem Mj {E:TypeId} {s:Nat} (h:IK P E=some s):P.cellsOf E=s:=by
 unfold IK at h
 unfold Program.cellsOf
 rw[h]; rfl
theorem cI {μ:Mu} {e:Operand→Option Value} {f:Operand→Value} (hf:∀ x u,e x=some u→RV μ u (f x)) {x:Option Operand} {v:Option Value} {d n top top':Nat} (hv:(x=none∧v=none) ∨ ∃ y u,x=some y∧e y=some u∧v=some u)
  (hn:(v=none∧n=d) ∨ ∃ k i,v=some (.int k i)∧0≤i∧i≤(top:Int)∧n=i.toNat) (ht:top≤top'):
  (x.map f=none∧n=d) ∨ ∃ k i,x.map f=some (.int k i)∧0≤i∧i≤(top':Int)∧n=i.toNat:=by
 rcases hv with ⟨rfl,rfl⟩ | ⟨y,u,rfl,hy,rfl⟩
 ·rcases hn with ⟨_,rfl⟩ | ⟨k,i,hh,_⟩
  ·exact .inl ⟨rfl,rfl⟩
  ·cases hh
 ·rcases hn with ⟨hh,_⟩ | ⟨k,i,hh,h0,h1,rfl⟩
  ·cases hh
  ·cases hh
   have:=gC (hf y _ hy)
   exact .inr ⟨k,i,by simp[this],h0,by omega,rfl⟩
theorem mB {len cap m h l:Nat} {lo hi mx:Option Value} (h1:(mx=none∧m=cap) ∨ ∃ k i,mx=some (.int k i)∧0≤i∧i≤(cap:Int)∧m=i.toNat)
  (h2:(hi=none∧h=len) ∨ ∃ k i,hi=some (.int k i)∧0≤i∧i≤(m:Int)∧h=i.toNat) (h3:(lo=none∧l=0) ∨ ∃ k i,lo=some (.int k i)∧0≤i∧i≤(h:Int)∧l=i.toNat)
  (hmx:mx.isSome=true→hi.isSome=true) (w:World):(Instr.sliceBounds true len cap lo hi mx).run P w = .ok (l,h,m) w:=by
 unfold Instr.sliceBounds
 rcases h1 with ⟨rfl,rfl⟩ | ⟨k1,i1,rfl,a1,b1,rfl⟩
 ·rcases h2 with ⟨rfl,rfl⟩ | ⟨k2,i2,rfl,a2,b2,rfl⟩
  ·rcases h3 with ⟨rfl,rfl⟩ | ⟨k3,i3,rfl,a3,b3,rfl⟩
   ·simp
   ·simp[run_sliceBound w k3 i3 h _ a3 b3]
  ·rcases h3 with ⟨rfl,rfl⟩ | ⟨k3,i3,rfl,a3,b3,rfl⟩
   ·simp[run_sliceBound w k2 i2 m _ a2 b2]
   ·simp[run_sliceBound w k2 i2 m _ a2 b2,run_sliceBound w k3 i3 _ _ a3 b3]
 ·rcases h2 with ⟨rfl,rfl⟩ | ⟨k2,i2,rfl,a2,b2,rfl⟩
  ·simp at hmx
  ·rcases h3 with ⟨rfl,rfl⟩ | ⟨k3,i3,rfl,a3,b3,rfl⟩
   ·simp[run_sliceBound w k1 i1 cap _ a1 b1,run_sliceBound w k2 i2 _ _ a2 b2]
   ·simp[run_sliceBound w k1 i1 cap _ a1 b1,run_sliceBound w k2 i2 _ _ a2 b2,run_sliceBound w k3 i3 _ _ a3 b3]
theorem Aay {T:TypeId} {x:Operand} {lo hi mx:Option Operand} {call:GL} {q:Bool} {ty:TypeId} {e:Operand→Option Value} {σ:Aa} {K:Value→Aa→Option ρ} {r:ρ} {o:Oper} (ho:o.op = .slice T x lo hi mx)
  (h:La P call q (.slice T x lo hi mx) ty e σ K=some r):∃ v,K v σ=some r∧mZ P o e σ v:=by
 simp only[La,Option.bind_eq_some_iff] at h
 obtain ⟨E,hE,s,hs,v,hv,h0⟩:=h
 obtain ⟨lo',h1,hlo⟩:=oy h0
 clear h0
 obtain ⟨hi',h2,hhi⟩:=oy h1
 clear h1
 obtain ⟨mx',h,hmx⟩:=oy h2
 clear h2
 have hT:=KZ hE
 cases v with
 | slice a len cap=>
   simp only[Option.bind_eq_some_iff] at h
   obtain ⟨r0,h,hK⟩:=h
   unfold JF at h
   simp only at h
   cases hms:(!mx'.isSome || hi'.isSome) with
   | false=>rw[hms] at h; cases h
   | true=>
     rw[hms] at h
     simp only[cond_true] at h
     obtain ⟨m,h1,hm⟩:=fQ h
     clear h
     obtain ⟨hh,h2,hhb⟩:=fQ h1
     clear h1
     obtain ⟨l,h,hlb⟩:=fQ h2
     clear h2
     have hmsx:∀ f:Operand→Value,(mx.map f).isSome=true→(hi.map f).isSome=true:=by
      intro f hq
      rcases hmx with ⟨rfl,rfl⟩ | ⟨y,u,rfl,_,rfl⟩
      ·simp at hq
      ·rcases hhi with ⟨rfl,rfl⟩ | ⟨y',u',rfl,_,rfl⟩
       ·simp at hms
       ·rfl
     have hlh:l≤hh:=by rcases hlb with ⟨_,rfl⟩ | ⟨_,_,_,_,_,rfl⟩ <;> omega
     have hmcap:m≤cap:=by rcases hm with ⟨_,rfl⟩ | ⟨_,_,_,_,_,rfl⟩ <;> omega
     have hhm:len≤cap→hh≤m:=by
      intro hlc
      rcases hhb with ⟨rfl,rfl⟩ | ⟨_,_,_,_,_,rfl⟩
      ·rcases hm with ⟨_,rfl⟩ | ⟨_,_,rfl,_,_,_⟩
       ·exact hlc
       ·simp at hms
      ·omega
     have main:∀ (μ:Mu) (w:World) (f:Operand→Value),(∀ x u,e x=some u→RV μ u (f x)) → ∀ (a':Option Addr) (c' m':Nat),f x = .slice a' len c' →
       ((mx.map f=none∧m'=c') ∨ ∃ k i,mx.map f=some (.int k i)∧0≤i∧i≤(c':Int)∧m'=i.toNat)→m≤m' →
       (execOp f o).run P w = .ok (.value (.slice (if m'=l then a' else a'.map (·.add (l*s))) (hh-l) (m'-l))) w:=by
      intro μ w f hf a' c' m' hfx hmm hmle
      refine AJ (by simp only[execOp,ho] <;> rfl) ?_
      have hb:=mB (P:=P) (len:=len) hmm (cI hf hhi hhb hmle) (cI hf hlo hlb (Nat.le_refl _)) (hmsx f) w
      simp only[hfx,Instr.sliceAt,Instr.slice,Sem.run_bind,run_underlying hT,Result.andThen_ok,hb,run_sizeOf hs,Sem.run_pure]
     by_cases hml:m=l
     ·rw[if_pos hml] at h
      cases a with
      | none=>
        simp only[Option.some.injEq] at h
        subst h
        refine ⟨_,hK,fun μ w f hR hf=>?_⟩
        have hr:=hf x _ hv
        generalize hfx:f x=fx at hr
        cases hr with
        | sliceNil=>
          have h2:=hhm (Nat.le_refl _)
          have hmm:(mx.map f=none∧(0:Nat)=0) ∨ ∃ k i,mx.map f=some (.int k i)∧0≤i∧i≤((0:Nat):Int)∧0=i.toNat:=by
           refine cI hf hmx ?_ (Nat.le_refl 0)
           rcases hm with ⟨g1,g2⟩ | ⟨k,i,g1,g2,g3,g4⟩
           ·exact .inl ⟨g1,rfl⟩
           ·exact .inr ⟨k,i,g1,g2,g3,by omega⟩
          refine ⟨_,main μ w f hf none 0 0 hfx hmm (by omega), ?_⟩
          rw[show hh-l=0 by omega,show 0-l=0 by omega]
          split <;> exact .sliceNil
      | some a'=>
      simp only at h
      cases hmi:mx'.isSome with
      | true=>
        rw[hmi] at h
        simp only[cond_true,Option.some.injEq] at h
        subst h
        refine ⟨_,hK,fun μ w f hR hf=>?_⟩
        have hr:=hf x _ hv
        have hex:∃ k i,mx'=some (.int k i)∧0≤i∧i≤(cap:Int)∧m=i.toNat:=by
         rcases hm with ⟨rfl,_⟩ | hm
         ·simp at hmi
         ·exact hm
        generalize hfx:f x=fx at hr
        have hmm:∀ c',cap≤c'→(mx.map f=none∧m=c') ∨ ∃ k i,mx.map f=some (.int k i)∧0≤i∧i≤(c':Int)∧m=i.toNat:=by
         intro c' hc'
         exact cI (d:=c') hf hmx (.inr hex) hc'
        cases hr with
        | sliceZ y hz=>
          refine ⟨_,main μ w f hf _ 0 m hfx (hmm _ (Nat.le_refl _)) (Nat.le_refl _), ?_⟩
          have:=hhm (Nat.le_refl _)
          rw[if_pos hml,hml,show hh-l=0 by omega,Nat.sub_self]; exact .sliceZ _ rfl
        | slice hk hsp hl hc hm'=>
          refine ⟨_,main μ w f hf _ _ m hfx (hmm _ hc) (Nat.le_refl _), ?_⟩
          have:=hhm hl
          rw[if_pos hml,hml,show hh-l=0 by omega,Nat.sub_self]; exact .sliceZ _ rfl
        | sliceEnd hk hsp hm'=>
          refine ⟨_,main μ w f hf _ _ m hfx (hmm _ (Nat.zero_le _)) (Nat.le_refl _), ?_⟩
          have:=hhm (Nat.le_refl _)
          rw[if_pos hml,hml,show hh-l=0 by omega,Nat.sub_self]; exact .sliceZ _ rfl
      | false=>
        rw[hmi] at h
        simp only[cond_false] at h
        have hmxn:mx'=none:=by simpa using hmi
        subst hmxn
        have hmc:m=cap:=by
         rcases hm with ⟨_,rfl⟩ | ⟨_,_,hx,_⟩
         ·rfl
         ·cases hx
        have hmxf:∀ f:Operand→Value,mx.map f=none:=by
         intro f
         rcases hmx with ⟨rfl,_⟩ | ⟨_,_,_,_,hx⟩
         ·rfl
         ·cases hx
        split at h
        ·rename_i hel
         simp only[Option.some.injEq] at h
         subst h
         refine ⟨_,hK,fun μ w f hR hf=>?_⟩
         have hr:=hf x _ hv
         generalize hfx:f x=fx at hr
         cases hr with
         | @sliceZ _ z y hz=>
           refine ⟨_,main μ w f hf _ 0 0 hfx (.inl ⟨hmxf f,rfl⟩) (by omega), ?_⟩
           have:=hhm (Nat.le_refl _)
           rw[show hh-l=0 by omega,show 0-l=0 by omega,if_pos (by omega)]; exact .sliceZ _ hz
         | @slice _ k' _ _ c' hk hsp hl hc hm'=>
           have hsz:=Zr hR hel hk
           rw[Mj hs] at hsz
           refine ⟨_,main μ w f hf _ c' c' hfx (.inl ⟨hmxf f,rfl⟩) (by omega), ?_⟩
           have:=hhm hl
           rw[show hh-l=0 by omega]
           split
           ·rename_i hcl
            rw[show c'-l=0 by omega]
            exact .slice hk hsp (Nat.le_refl _) (Nat.le_refl _) (by have:0*k'.s≤c'*k'.s:=Nat.mul_le_mul_right _ (Nat.zero_le _); omega)
           ·simp only[Option.map_some,NF,Nat.add_assoc]
            refine .sliceEnd hk hsp ?_
            rw[hsz,Nat.sub_mul]
            rw[hsz] at hm'
            have:l*s≤c'*s:=Nat.mul_le_mul_right _ (by omega)
            omega
         | @sliceEnd _ k' o' c' hk hsp hm'=>
           refine ⟨_,main μ w f hf _ c' c' hfx (.inl ⟨hmxf f,rfl⟩) (by omega), ?_⟩
           have:=hhm (Nat.le_refl _)
           have hl0:l=0:=by omega
           subst hl0
           rw[show hh-0=0 by omega,Nat.sub_zero]
           split
           ·rename_i hcl
            exact .sliceEnd hk hsp hm'
           ·simp only[Option.map_some,NF,Nat.zero_mul,Nat.add_zero]
            exact .sliceEnd hk hsp hm'
        ·cases h
     ·rw[if_neg hml] at h
      simp only[Option.bind_eq_some_iff] at h
      obtain ⟨a',ha,h⟩:=h
      subst ha
      split at h
      ·rename_i hel
       simp only[Option.some.injEq] at h
       subst h
       refine ⟨_,hK,fun μ w f hR hf=>?_⟩
       have hr:=hf x _ hv
       generalize hfx:f x=fx at hr
       cases hr with
       | sliceZ y hz=>
         have h1:=hhm (Nat.le_refl _)
         exact absurd (show m=l from Nat.le_antisymm (Nat.le_trans hmcap (Nat.zero_le _)) (Nat.le_trans hlh h1)) hml
       | @slice _ k' _ _ c' hk hsp hl hc hm'=>
         have hsz:=Zr hR hel hk
         rw[Mj hs] at hsz
         have hlm:=hhm hl
         obtain ⟨m',hm1,hm2,hm3⟩:∃ m',((mx.map f=none∧m'=c') ∨ ∃ k i,mx.map f=some (.int k i)∧0≤i∧i≤(c':Int)∧m'=i.toNat)∧m≤m'∧m'≤c':=by
          rcases hm with ⟨rfl,rfl⟩ | ⟨k,i,rfl,h0,h1,rfl⟩
          ·refine ⟨c',.inl ⟨?_,rfl⟩,hc,Nat.le_refl _⟩
           rcases hmx with ⟨rfl,_⟩ | ⟨_,_,_,_,hx⟩
           ·rfl
           ·cases hx
          ·exact ⟨i.toNat,cI hf hmx (.inr ⟨k,i,rfl,h0,h1,rfl⟩) hc,Nat.le_refl _,by omega⟩
         refine ⟨_,main μ w f hf _ c' m' hfx hm1 hm2, ?_⟩
         rw[if_neg (by omega)]
         simp only[Option.map_some,NF,Nat.add_assoc]
         refine RV.slice (a:=⟨a'.block,a'.off+l*s,none⟩) hk rfl (by omega) (by omega) ?_
         rw[hsz,Nat.sub_mul]
         rw[hsz] at hm'
         have:l*s≤m'*s:=Nat.mul_le_mul_right _ (by omega)
         have:m'*s≤c'*s:=Nat.mul_le_mul_right _ (by omega)
         simp only
         omega
       | @sliceEnd _ k' o' c' hk hsp hm'=>
         have h1:=hhm (Nat.le_refl _)
         exact absurd (show m=l from Nat.le_antisymm (Nat.le_trans hmcap (Nat.zero_le _)) (Nat.le_trans hlh h1)) hml
      ·cases h
 | _=>cases h
end Go.AX
end
