/- All that reads; new blocks.; Stores; writes of maps.; append, copy, clear, delete.; append. -/
import Derived.Test.YtphkfdnecpacmaaGreatP1
set_option linter.unusedVariables false
set_option linter.unusedSimpArgs false
set_option linter.unusedSectionVars false
section
namespace Go.AX
open Go
variable {ρ:Type} {P:Program} [AA]
theorem xG {c:Call} {call:GL} {q:Bool} {ty:TypeId} {e:Operand→Option Value} {σ:Aa} {K:Value→Aa→Option ρ} {r:ρ} {o:Oper} (ho:o.op = .call c) (hb:c.callee = .builtin .len)
  (h:La P call q (.call c) ty e σ K=some r):∃ v,K v σ=some r∧mZ P o e σ v:=by
 simp only[La,hb] at h
 obtain ⟨vs,h1,hvs⟩:=Q4 h
 clear h
 simp only[Vb,Air] at h1
 split at h1
 rotate_left
 ·cases h1
 rename_i t v hts
 split at h1
 ·rename_i n _ hd
  refine ⟨_,h1,fun μ w f hR hf=>?_⟩
  obtain ⟨cs,hex⟩:=D8 (f:=f) ho hb
  have hr:=hvs μ f hf
  generalize c.args.toList.map f=l at hr hex
  cases hr with
  | cons h1 h2=>
    cases h2
    refine ⟨_, ?_,.int _ _⟩
    rw[hex,toList_eq hts]
    cases h1 <;> simp[builtin,Builtin.len_,run_underlying hd,goInt]
 ·rename_i s hd
  refine ⟨_,h1,fun μ w f hR hf=>?_⟩
  obtain ⟨cs,hex⟩:=D8 (f:=f) ho hb
  have hr:=hvs μ f hf
  generalize c.args.toList.map f=l at hr hex
  cases hr with
  | cons h1 h2=>
    cases h2
    refine ⟨_, ?_,.int _ _⟩
    rw[hex,toList_eq hts]
    cases h1 <;> simp[builtin,Builtin.len_,run_underlying hd,goInt]
 ·rename_i rr hd
  simp only[Option.bind_eq_some_iff] at h1
  obtain ⟨es,hes,h1⟩:=h1
  refine ⟨_,h1,fun μ w f hR hf=>?_⟩
  obtain ⟨cs,hex⟩:=D8 (f:=f) ho hb
  have hr:=hvs μ f hf
  generalize c.args.toList.map f=l at hr hex
  clear h1
  cases hr with
  | cons h1 h2=>
    cases h2
    refine ⟨_, ?_,.int _ _⟩
    rw[hex,toList_eq hts]
    cases rr with
    | none=>
      cases hes
      rw[Y1 h1]
      simp[builtin,Builtin.len_,run_underlying hd,goInt]
    | some r'=>
      obtain ⟨kb,hkb,hfm⟩:=kz h1
      obtain ⟨entries,clock,hh,hre⟩:=kh hR hes hkb
      have hlen:es.length=entries.size:=by
       have:∀ (a:List (Int × Value)) (b:List MapEntry),ez μ a b→a.length=b.length:=by
        intro a b hab
        induction hab with
        | nil=>rfl
        | cons _ _ _ ih=>simp[ih]
       simpa using this _ _ hre
      rw[hfm]
      simp[builtin,Builtin.len_,run_underlying hd,goInt,My hh,hlen]
 ·cases h1
theorem xF {o:Oper} {call:GL} {q:Bool} {e:Operand→Option Value} {σ:Aa} {K:Value→Aa→Option ρ} {r:ρ} (hc:GR P o = .ld)
  (h:La P call q o.op o.type e σ K=some r):∃ v,K v σ=some r∧mZ P o e σ v:=by
 cases ho:o.op
 case load=>rw[ho] at h; exact vx ho h
 case lookup=>rw[ho] at h; exact xH ho h
 case slice=>rw[ho] at h; exact Aay ho h
 case call c=>
  rw[ho] at h
  simp only[GR,ho] at hc
  split at hc
  ·rename_i b hb
   cases b <;> simp only[qi] at hc <;> first
    | (cases hc; done)
    | skip
   exact xG ho hb h
  ·cases hc
 all_goals (simp[GR,ho] at hc)
def yq (P:Program) (μ:Mu) (σ:Aa) (w:World) (v:Value) (σ':Aa) (res:Result Next):Prop:=
 ∃ μ' v' w',(res = .ok (.value v') w'∨(res = .ok .skip w'∧v'=undef))∧RV μ' v v'∧R P μ' σ' w'∧Step μ σ w μ' σ' w'
theorem zQ {μ:Mu} {vs:List Value} {c:Array Value} {T:TypeId} {s b:Nat} (hs:s=P.cellsOf T) (hr:K9 μ vs c.toList) (hl:∀ v ∈ vs,v.oneCell'=true):
  pX P μ (.cells vs T true) ⟨b,0,s,vs.length,vs.length⟩ (some (.cells c T)):=by
 have hlen:=hr.length
 refine ⟨c,T,(0,0),rfl,rfl,Nat.le_refl _,by simp at hlen ⊢; omega,hs,fun _=>rfl,hl, ?_⟩
 simp only[List.drop_zero]
 rw[List.take_of_length_le (by omega)]
 exact hr
theorem Yo {μ:Mu} {σ:Aa} {w:World} (hR:R P μ σ w) (hf:HT μ σ.length (σ.length+1)) {vs:List Value} {c:Array Value} {T:TypeId} (hr:K9 μ vs c.toList) (hl:∀ v ∈ vs,v.oneCell'=true)
  {v v':Value} (hv:∀ μ':Mu,μ' σ.length=some ⟨w.heap.size,0,P.cellsOf T,vs.length,vs.length⟩→RV μ' v v'):
  yq P μ σ w v (σ++[A6.cells vs T true]) (.ok (.value v') (w.alloc (.cells c T))):=by
 refine ⟨μ.put σ.length ⟨w.heap.size,0,P.cellsOf T,vs.length,vs.length⟩,v',_,.inl rfl,hv _ (Mu.FM _ _ _), ?_,Step.alloc rfl⟩
 exact hR.alloc (hf _ (Nat.le_refl _) (Nat.lt_succ_self _)) rfl (zQ rfl hr hl)
def Ajk (P:Program) (o:Oper) (e:Operand→Option Value) (σ:Aa) (v:Value) (σ':Aa):Prop:=
 ∀ (μ:Mu) (w:World) (f:Operand→Value),R P μ σ w→HT μ σ.length σ'.length→(∀ x u,e x=some u→RV μ u (f x))→yq P μ σ w v σ' ((execOp f o).run P w)
theorem X4 (z:Array Value) (n:Nat) (hz:0<z.size):((Array.range (n*z.size)).map (fun x=>z[x % z.size]!)).toList=rep n z.toList:=by
 apply List.ext_getElem?
 intro i
 simp only[Array.toList_map,Array.toList_range,List.getElem?_map,List.getElem?_range]
 induction n generalizing i with
 | zero=>simp[AX.rep]
 | succ n ih=>
   have e:AX.rep (n+1) z.toList=z.toList++AX.rep n z.toList:=by simp[AX.rep,List.replicate_succ]
   rw[e]
   by_cases hi:i<z.size
   ·rw[List.getElem?_append_left (by simpa using hi)]
    have:i<(n+1)*z.size:=by rw[Nat.succ_mul]; omega
    simp[List.getElem?_range,this,Nat.mod_eq_of_lt hi,hi]
   ·rw[List.getElem?_append_right (by simpa using Nat.le_of_not_lt hi)]
    simp only[Array.length_toList]
    rw[← ih (i-z.size)]
    have hm:i % z.size=(i-z.size) % z.size:=by
     rw[Nat.mod_eq_sub_mod (Nat.le_of_not_lt hi)]
    by_cases hlt:i<(n+1)*z.size
    ·have:i-z.size<n*z.size:=by rw[Nat.succ_mul] at hlt; omega
     simp[List.getElem?_range,hlt,this,hm]
    ·have:¬ i-z.size<n*z.size:=by rw[Nat.succ_mul] at hlt; omega
     simp[List.getElem?_range,hlt,this]
theorem xD {o:Oper} {call:GL} {q:Bool} {e:Operand→Option Value} {σ:Aa} {K:Value→Aa→Option ρ} {r:ρ} (hc:GR P o = .al) (hnc:∀ c,o.op ≠ .call c)
  (h:La P call q o.op o.type e σ K=some r):∃ v x,K v (σ++[x])=some r∧Ajk P o e σ v (σ++[x]):=by
 cases ho:o.op
 case call c=>exact absurd ho (hnc c)
 case box T x=>
  rw[ho] at h
  simp only[La,Option.bind_eq_some_iff] at h
  obtain ⟨v,hv,h⟩:=h
  cases ht:GW v with
  | true=>rw[ht] at h; cases h
  | false=>
    rw[ht] at h
    simp only[cond_false] at h
    refine ⟨_,_,h,fun μ w f hR hfr hf=>?_⟩
    obtain ⟨h1,h2,h3⟩:=Lt (hf x v hv) ht
    have hrun:(execOp f o).run P w = .ok (.value (.pointer (some ⟨w.heap.size,0,none⟩))) (w.alloc (.cells (f x).cells T)):=by
     refine AJ (by simp only[execOp,ho] <;> rfl) ?_
     simp[Instr.box,newVar,newRow]
    rw[hrun]
    exact Yo hR (by simpa using hfr) h1 h2 fun μ' hμ=>RV.ptr (a:=⟨σ.length,0,none⟩) hμ rfl
 case alloc T=>
  rw[ho] at h
  simp only[La,Option.bind_eq_some_iff] at h
  obtain ⟨z,hz,h⟩:=h
  split at h
  ·rename_i htz
   refine ⟨_,_,h,fun μ w f hR hfr hf=>?_⟩
   obtain ⟨hz1,hz2⟩:=Mz hz w
   obtain ⟨h1,h2,h3⟩:=Lt (RV.JR (μ:=μ) hz2) htz
   have hrun:(execOp f o).run P w = .ok (.value (.pointer (some ⟨w.heap.size,0,none⟩))) (w.alloc (.cells z.cells T)):=by
    refine AJ (by simp only[execOp,ho] <;> rfl) ?_
    simp[Instr.alloc,newVar,newRow,hz1]
   rw[hrun]
   exact Yo hR (by simpa using hfr) h1 h2 fun μ' hμ=>RV.ptr (a:=⟨σ.length,0,none⟩) hμ rfl
  ·cases h
 case buildSlice T n parts=>
  rw[ho] at h
  simp only[La,Option.bind_eq_some_iff] at h
  obtain ⟨E,hE,h⟩:=h
  cases hn0:(n == 0) with
  | true=>
    have hn:n=0:=by simpa using hn0
    subst hn
    rw[hn0] at h
    simp only[cond_true] at h
    cases hpe:parts.toList.isEmpty with
    | false=>rw[hpe] at h; cases h
    | true=>
    rw[hpe] at h
    simp only[cond_true,Option.bind_eq_some_iff] at h
    obtain ⟨s,hsz,h⟩:=h
    have hp0:parts = #[]:=by
     apply Array.toList_inj.1; simpa using hpe
    subst hp0
    refine ⟨_,_,h,fun μ w f hR hfr hf=>?_⟩
    have hT:=KZ hE
    have hrun:(execOp f o).run P w = .ok (.value (.slice (some ⟨w.heap.size,0,none⟩) 0 0)) (w.alloc (.cells #[] E)):=by
     refine AJ (by simp only[execOp,ho] <;> rfl) ?_
     simp[Instr.buildSlice,run_underlying hT,run_sizeOf hsz,Instr.fill,newRow,run_newObj_alloc]
     have e:Array.map (fun _=>(default:Value)) (Array.range 0) = #[]:=by
      apply Array.eq_empty_of_size_eq_zero; simp
     rw[e]
    rw[hrun]
    refine Yo hR (by simpa using hfr) .nil (by simp) fun μ' hμ=>?_
    exact RV.sliceZ (a:=⟨σ.length,0,some 0⟩) (z:=0) _ rfl
  | false=>
  rw[hn0] at h
  simp only[cond_false,Option.bind_eq_some_iff] at h
  obtain ⟨z,hz,h⟩:=h
  obtain ⟨ps,h1,hps⟩:=oz h
  clear h
  split at h1
  ·rename_i hh
   obtain ⟨hsz,hn,hz0,hle,htz⟩:=hh
   simp only[Option.bind_eq_some_iff] at h1
   obtain ⟨cs,hcs,h⟩:=h1
   refine ⟨_,_,h,fun μ w f hR hfr hf=>?_⟩
   obtain ⟨hz1,hz2⟩:=Mz hz w
   obtain ⟨g1,g2,g3⟩:=Lt (RV.JR (μ:=μ) hz2) htz
   have hT:=KZ hE
   have hrep:=X4 z.cells n hz0
   obtain ⟨out',k1,k2,k3,k4⟩:=bX ps _ _ ((Array.range (n*z.cells.size)).map (fun x=>z.cells[x % z.cells.size]!)) cs (hps μ f hf) (by rw[hrep]; exact g1.rep n)
    (by intro v hv; simp only[AX.rep,List.mem_flatten,List.mem_replicate] at hv; obtain ⟨l,⟨_,rfl⟩,hvl⟩:=hv; exact g2 v hvl) hcs
   have hm:(parts.map fun x=>(x.1,f x.2)).toList=parts.toList.map fun p=>(p.1,f p.2):=by simp
   have hrun:(execOp f o).run P w = .ok (.value (.slice (some ⟨w.heap.size,0,none⟩) n n)) (w.alloc (.cells out' E)):=by
    refine AJ (by simp only[execOp,ho] <;> rfl) ?_
    have hne:¬ n*z.cells.size=0:=by
     have:=Nat.mul_pos hn hz0; omega
    simp only[Instr.buildSlice,Sem.run_bind,run_underlying hT,Result.andThen_ok,run_sizeOf hsz,Sem.run_ite,if_neg (Nat.not_lt.2 hle),if_neg hne,hz1,Sem.run_pure,hm,k1,newRow,run_newObj_alloc]
   rw[hrun]
   have hcl:cs.length=n*z.cells.size:=by
    rw[k4,← hrep]; simp
   refine Yo hR (by simpa using hfr) k2 k3 fun μ' hμ=>?_
   refine RV.slice (a:=⟨σ.length,0,none⟩) hμ rfl (Nat.le_refl _) (Nat.le_refl _) ?_
   simp only[Mj hsz,hcl]; omega
  ·cases h1
 case makeMap T rs=>
  rw[ho] at h
  cases rs with
  | some x=>simp only[La] at h; cases h
  | none=>
    simp only[La] at h
    refine ⟨_,_,h,fun μ w f hR hfr hf=>?_⟩
    have hrun:(execOp f o).run P w = .ok (.value (.map (some w.heap.size))) (w.alloc (.map #[] 0)):=by
     refine AJ (by simp only[execOp,ho] <;> rfl) ?_
     simp[Instr.makeMap]
    rw[hrun]
    refine ⟨μ.put σ.length ⟨w.heap.size,0,0,0,0⟩,_,_,.inl rfl,RV.map (k:=⟨w.heap.size,0,0,0,0⟩) (Mu.FM _ _ _), ?_,Step.alloc rfl⟩
    exact hR.alloc (hfr _ (Nat.le_refl _) (by simp)) rfl ⟨#[],0,rfl,.nil⟩
 case makeSlice T l c=>
  rw[ho] at h
  simp only[La,Option.bind_eq_some_iff] at h
  obtain ⟨E,hE,lv,hl,cv,hcv,h⟩:=h
  split at h
  ·rename_i l' c'
   simp only[Option.bind_eq_some_iff] at h
   obtain ⟨by_,hby,h⟩:=h
   split at h
   ·rename_i hh
    obtain ⟨h0,hlc,hcb,hc40⟩:=hh
    simp only[Option.bind_eq_some_iff] at h
    obtain ⟨z,hz,h⟩:=h
    split at h
    ·rename_i hh
     obtain ⟨hsz,hz0,htz⟩:=hh
     refine ⟨_,_,h,fun μ w f hR hfr hf=>?_⟩
     obtain ⟨hz1,hz2⟩:=Mz hz w
     obtain ⟨g1,g2,g3⟩:=Lt (RV.JR (μ:=μ) hz2) htz
     have hT:=KZ hE
     have hfl:=gC (hf l _ hl)
     have hfc:=gC (hf c _ hcv)
     have hby':∃ i,P.info? E=some i∧i.bytes=by_:=by unfold bytesOf at hby; simpa using hby
     obtain ⟨i,hi,hib⟩:=hby'
     have wl:IntKind.i64.wrap l'=l':=IntWalk.i64_in _ (by omega)
     have wc:IntKind.i64.wrap c'=c':=IntWalk.i64_in _ (by omega)
     have hrun:(execOp f o).run P w = .ok (.value (.slice (some ⟨w.heap.size,0,none⟩) l'.toNat c'.toNat)) (w.alloc (.cells ((Array.range (c'.toNat*z.cells.size)).map (fun x=>z.cells[x % z.cells.size]!)) E)):=by
      refine AJ (by simp only[execOp,ho] <;> rfl) ?_
      have hty:(typeInfo E).run P w = .ok i w:=by simp[typeInfo,hi]
      have hbc:¬ ((by_:Int)*c'>2 ^ 48):=by
       rw[Int.mul_comm]; omega
      simp only[Instr.makeSlice,Sem.run_bind,run_underlying hT,Result.andThen_ok,hfl,hfc,asInt,asIntOf,Sem.run_pure,hty,wl,wc,hib]
      have hcond:((decide (c'<0) || decide ((by_:Int)*c'>2 ^ 48)) || decide (l'<0) || decide (l'>c'))=false:=by
       simp only[Bool.or_eq_false_iff,decide_eq_false_iff_not]; omega
      rw[if_neg (by rw[hcond]; simp)]
      simp only[Sem.run_bind,run_askRoom,Result.andThen_ok,run_sizeOf hsz]
      by_cases hc0:c'.toNat*z.cells.size=0
      ·simp only[hc0,if_true,Sem.run_pure,Result.andThen_ok,newRow,Sem.run_bind,run_newObj_alloc,show Array.range 0=(#[]:Array Nat) from rfl,Array.map_empty]
      ·simp only[hc0,if_false,Sem.run_bind,hz1,Sem.run_pure,Result.andThen_ok,newRow,run_newObj_alloc]
     rw[hrun]
     have hrep:=X4 z.cells c'.toNat hz0
     have hlen:(AX.rep c'.toNat z.cells.toList).length=c'.toNat*z.cells.size:=by rw[← hrep]; simp
     refine Yo hR (by simpa using hfr) (by rw[hrep]; exact g1.rep _) ?_ fun μ' hμ=>?_
     ·intro v hv; simp only[AX.rep,List.mem_flatten,List.mem_replicate] at hv; obtain ⟨l,⟨_,rfl⟩,hvl⟩:=hv; exact g2 v hvl
     ·refine RV.slice (a:=⟨σ.length,0,none⟩) hμ rfl (by omega) (Nat.le_refl _) ?_
      simp only[Mj hsz,hlen]; omega
    ·cases h
   ·cases h
  ·cases h
 all_goals (simp[GR,ho] at hc)
end Go.AX
end
section
namespace Go.AX
open Go
variable {ρ:Type} {P:Program} [AA]
theorem R.upd {μ:Mu} {σ:Aa} {w w':World} (hR:R P μ σ w) {h:Nat} {k:kJ} (hk:μ h=some k) (ha:alive σ h) (hwr:Ay σ h) {o':A6} (hsz:w'.heap.size=w.heap.size)
  (hother:∀ b,b≠k.b→w'.heap[b]?=w.heap[b]?) (ho:pX P μ o' k w'.heap[k.b]?):R P μ (σ.set h o') w':=by
 have hal:∀ x,alive (σ.set h o') x→alive σ x:=by
  intro x ⟨o,ho,hd⟩
  by_cases hx:x=h
  ·subst hx; exact ha
  ·rw[List.getElem?_set_ne (Ne.symm hx)] at ho; exact ⟨o,ho,hd⟩
 refine ⟨?_, ?_, ?_⟩
 ·intro x o kx hx hkx
  by_cases hxh:x=h
  ·subst hxh
   rw[hk] at hkx; cases hkx
   obtain ⟨o0,ho0,_⟩:=ha
   have hlt:x<σ.length:=(List.getElem?_eq_some_iff.1 ho0).1
   rw[List.getElem?_set_self hlt] at hx
   cases hx
   exact ho
  ·rw[List.getElem?_set_ne (Ne.symm hxh)] at hx
   by_cases hd:o = .dead
   ·subst hd; trivial
   ·have hne:kx.b≠k.b:=fun he=>hxh (hR.inj x h kx k hkx hk ⟨o,hx,hd⟩ ha (.inr hwr) he)
    rw[hother _ hne]
    exact hR.obj x o kx hx hkx
 ·intro x kx hkx; rw[hsz]; exact hR.lt x kx hkx
 ·have hwal:∀ x,Ay (σ.set h o') x→Ay σ x:=by
   intro x hwx
   by_cases hx:x=h
   ·subst hx; exact hwr
   ·unfold Ay at hwx ⊢
    rwa [List.getElem?_set_ne (Ne.symm hx)] at hwx
  intro a b ka kb h1 h2 h3 h4 h6 h5
  exact hR.inj a b ka kb h1 h2 (hal a h3) (hal b h4) (h6.imp (hwal a) (hwal b)) h5
theorem Step.upd {μ:Mu} {σ:Aa} {w w':World} {h:Nat} {k:kJ} (hk:μ h=some k) (hl:h<σ.length) (hw:Ay σ h) {o':A6} (hsz:w'.heap.size=w.heap.size) (ht:w'.tape=w.tape) (hos:w'.os=w.os) (hout:w'.output=w.output)
  (hother:∀ b,b≠k.b→w'.heap[b]?=w.heap[b]?):Step μ σ w μ (σ.set h o') w':=by
 refine ⟨by simp,fun _ _=>rfl, ?_, ?_,by omega,ht,hos,hout, ?_⟩
 ·intro x hx hwx
  by_cases hxh:x=h
  ·subst hxh; exact hw
  ·unfold Ay at hwx ⊢
   rwa [List.getElem?_set_ne (Ne.symm hxh)] at hwx
 ·intro x kx h1 h2; simp at h2; omega
 ·intro b hb hn
  exact hother b fun he=>hn h k hl hk he.symm hw
theorem UE {cs vs:List Value} {o:Nat} (h:o+vs.length≤cs.length) (i:Nat):
  (AK cs o vs)[i]?=if i<o then cs[i]? else if i<o+vs.length then vs[i-o]? else cs[i]?:=by
 unfold AK
 have hl:(cs.take o).length=o:=by simp; omega
 by_cases h1:i<o
 ·rw[if_pos h1,List.append_assoc,List.getElem?_append_left (by omega),List.getElem?_take,if_pos h1]
 ·rw[if_neg h1]
  by_cases h2:i<o+vs.length
  ·rw[if_pos h2,List.getElem?_append_left (by rw[List.length_append]; omega),List.getElem?_append_right (by omega),hl]
  ·rw[if_neg h2,List.getElem?_append_right (by rw[List.length_append]; omega),List.getElem?_drop]
   congr 1
   rw[List.length_append]; omega
theorem tP {cs:List Value} {o:Nat} {v:Value} (h:o<cs.length):cs.set o v=AK cs o [v]:=by
 apply List.ext_getElem?
 intro i
 rw[UE (by simp; omega),List.getElem?_set]
 by_cases h1:o=i
 ·subst h1; simp[h]
 ·simp only[h1,if_false,List.length_singleton]
  by_cases h2:i<o
  ·simp[h2]
  ·have:¬ i<o+1:=by omega
   simp[h2,this]
theorem O8 {μ:Mu} {σ:Aa} {w:World} (hR:R P μ σ w) {b o:Nat} {k:kJ} (hk:μ b=some k) {cs vs vs':List Value} {T:TypeId} (hb:σ[b]?=some (.cells cs T true)) (hv:K9 μ vs vs')
  (hl:∀ v ∈ vs,v.oneCell'=true) (ho:o+vs.length≤cs.length):
  ∃ w',(storeCells ⟨k.b,k.o+o,none⟩ vs').run P w = .ok () w'∧R P μ (σ.set b (.cells (AK cs o vs) T true)) w'∧Step μ σ w μ (σ.set b (.cells (AK cs o vs) T true)) w':=by
 obtain ⟨c,T',fz,hx,h1,h2,h3,h4,h5,h6,h7⟩:=hR.obj _ _ _ hb hk
 have hfz:=h5 rfl
 subst hfz
 have hvl:=hv.length
 have hrun:=run_storeCells_at P k.b (k.o+o) T' vs' 0 c w hx (by omega) (hv.leaf hl)
 have hbl:b<σ.length:=(List.getElem?_eq_some_iff.1 hb).1
 have hal:alive σ b:=⟨_,hb,by simp⟩
 have hwr:Ay σ b:=by unfold Ay; rw[hb]; trivial
 have e:(c.toList.take (k.o+o+0)++vs'++c.toList.drop (k.o+o+0+vs'.length)).toArray.toList=AK c.toList (k.o+o) vs':=by simp[AK]
 refine ⟨_,hrun, ?_, ?_⟩
 ·refine hR.upd hk hal hwr (size_setRow _ _ _) (fun b' hb'=>setRow_other w k.b b' _ hb') ?_
  have hc:(w.setRow k.b (c.toList.take (k.o+o+0)++vs'++c.toList.drop (k.o+o+0+vs'.length)).toArray).heap[k.b]?=some (.cells _ T' (0,0)):=setRow_heap w k.b c _ T' _ hx
  rw[hc]
  have hlen:(AK c.toList (k.o+o) vs').length=c.size:=by rw[Ja (by simp; omega)]; simp
  refine ⟨_,T',(0,0),rfl,by rw[Ja ho]; exact h1,h2, ?_,h4,fun _=>rfl,Xs h6 hl, ?_⟩
  ·rw[← Array.length_toList,e,hlen]; exact h3
  ·rw[e]
   refine K9.xB ?_ ?_
   ·rw[Ja ho,List.length_take,List.length_drop,hlen]; omega
   ·intro i x x' hx1 hx2
    have hi:i<k.n:=by
     have:=(List.getElem?_eq_some_iff.1 hx1).1
     rw[Ja ho] at this; omega
    rw[List.getElem?_take,if_pos hi,List.getElem?_drop,UE (by simp; omega)] at hx2
    rw[UE ho] at hx1
    by_cases c1:i<o
    ·rw[if_pos c1] at hx1
     rw[if_pos (by omega)] at hx2
     obtain ⟨y,hy,hr⟩:=h7.get i x hx1
     rw[List.getElem?_take,if_pos hi,List.getElem?_drop] at hy
     rw[hy] at hx2; cases hx2; exact hr
    ·rw[if_neg c1] at hx1
     rw[if_neg (by omega)] at hx2
     by_cases c2:i<o+vs.length
     ·rw[if_pos c2] at hx1
      rw[if_pos (by omega)] at hx2
      obtain ⟨y,hy,hr⟩:=hv.get _ x hx1
      rw[show k.o+i-(k.o+o)=i-o by omega,hy] at hx2
      cases hx2; exact hr
     ·rw[if_neg c2] at hx1
      rw[if_neg (by omega)] at hx2
      obtain ⟨y,hy,hr⟩:=h7.get i x hx1
      rw[List.getElem?_take,if_pos hi,List.getElem?_drop] at hy
      rw[hy] at hx2; cases hx2; exact hr
 ·exact Step.upd hk hbl hwr (size_setRow _ _ _) rfl rfl rfl (fun b' hb'=>setRow_other w k.b b' _ hb')
theorem VL {w:World} {b:Nat} {entries:Array MapEntry} {clock:Nat} (h:w.heap[b]?=some (.map entries clock)) (x:Obj):(setObj b x).run P w = .ok () { w with heap:=w.heap.setIfInBounds b x }:=by
 simp only[setObj,Sem.run,h]
theorem Tn {μ:Mu} {σ:Aa} {w:World} (hR:R P μ σ w) {h:Nat} {k:kJ} (hk:μ h=some k) {es es2:List (Int × Value)} (hb:σ[h]?=some (.map es)) {entries2:Array MapEntry} (clock:Nat) (hre:ez μ es2 entries2.toList):
  R P μ (σ.set h (.map es2)) { w with heap:=w.heap.setIfInBounds k.b (.map entries2 clock) }∧Step μ σ w μ (σ.set h (.map es2)) { w with heap:=w.heap.setIfInBounds k.b (.map entries2 clock) }:=by
 have hbl:h<σ.length:=(List.getElem?_eq_some_iff.1 hb).1
 have hal:alive σ h:=⟨_,hb,by simp⟩
 have hwr:Ay σ h:=by unfold Ay; rw[hb]; trivial
 have hother:∀ b,b≠k.b→(w.heap.setIfInBounds k.b (.map entries2 clock))[b]?=w.heap[b]?:=fun b hb=>by
  rw[Array.getElem?_setIfInBounds,if_neg (Ne.symm hb)]
 refine ⟨hR.upd hk hal hwr (by simp) hother ?_,Step.upd hk hbl hwr (by simp) rfl rfl rfl hother⟩
 have:(w.heap.setIfInBounds k.b (.map entries2 clock))[k.b]?=some (.map entries2 clock):=by
  rw[Array.getElem?_setIfInBounds,if_pos rfl,if_pos (hR.lt _ _ hk)]
 show pX P μ _ k (w.heap.setIfInBounds k.b (.map entries2 clock))[k.b]?
 rw[this]
 exact ⟨entries2,clock,rfl,hre⟩
theorem ez.push {μ:Mu} {k:Int} {v v':Value} (hv:RV μ v v') (born:Nat):∀ {es:List (Int × Value)} {es':List MapEntry},ez μ es es'→ez μ (es++[(k,v)]) (es'++[{ key:=.int .i64 k,val:=v',born:=born }])
 | _,_,.nil=>.cons rfl hv .nil
 | _,_,.cons hk h t=>.cons hk h (ez.push hv born t)
theorem ez.set {μ:Mu} {k:Int} {v v':Value} (hv:RV μ v v'):∀ {es:List (Int × Value)} {es':List MapEntry} (j:Nat),ez μ es es'→ez μ (es.set j (k,v)) (es'.modify j fun e=>{ e with key:=.int .i64 k,val:=v' })
 | _,_,_,.nil=>by simpa using ez.nil
 | _,_,0,.cons hk h t=>.cons rfl hv t
 | _,_,j+1,.cons hk h t=>.cons hk h (ez.set hv j t)
theorem ez.erase {μ:Mu}:∀ {es:List (Int × Value)} {es':List MapEntry} (j:Nat),ez μ es es'→ez μ (es.eraseIdx j) (es'.eraseIdx j)
 | _,_,_,.nil=>by simpa using ez.nil
 | _,_,0,.cons hk h t=>t
 | _,_,j+1,.cons hk h t=>.cons hk h (ez.erase j t)
theorem ez.length {μ:Mu}:∀ {es:List (Int × Value)} {es':List MapEntry},ez μ es es'→es.length=es'.length
 | _,_,.nil=>rfl
 | _,_,.cons _ _ t=>by simp[ez.length t]
def zu (P:Program) (o:Oper) (e:Operand→Option Value) (σ:Aa) (v:Value) (σ':Aa):Prop:=
 ∀ (μ:Mu) (w:World) (f:Operand→Value),R P μ σ w→HT μ σ.length σ'.length→(∀ x u,e x=some u→RV μ u (f x))→yq P μ σ w v σ' ((execOp f o).run P w)
theorem TH {o:Oper} {f:Operand→Value} {w w':World} {s:Sem Unit} (h:execOp f o=(do s; pure .skip:Sem Next)) (hs:s.run P w = .ok () w'):
  (execOp f o).run P w = .ok .skip w':=by
 rw[h]; simp[hs]
theorem Y2 {μ:Mu}:RV μ undef undef:=.tuple .nil
theorem Aes {σ σ':Aa} {b o:Nat} {v:Value} (h:Kx σ b o v=some σ'):∃ cs T,σ[b]?=some (.cells cs T true)∧o+[v].length≤cs.length∧σ'=σ.set b (.cells (AK cs o [v]) T true):=by
 unfold Kx at h
 split at h
 ·rename_i cs T hb
  split at h
  ·rename_i ho
   cases h
   exact ⟨cs,T,hb,by simp; omega,by rw[tP ho]⟩
  ·cases h
 ·cases h
theorem YK {σ σ':Aa} {b o:Nat} {vs:List Value} (h:X5 σ b o vs=some σ'):∃ cs T,σ[b]?=some (.cells cs T true)∧o+vs.length≤cs.length∧σ'=σ.set b (.cells (AK cs o vs) T true):=by
 unfold X5 at h
 split at h
 ·rename_i cs T hb
  split at h
  ·rename_i ho
   cases h
   exact ⟨cs,T,hb,ho,rfl⟩
  ·cases h
 ·cases h
theorem Abi {σ:Aa} {b o:Nat} {cs vs:List Value} {T:TypeId} (hb:σ[b]?=some (.cells cs T true)) (h:o+vs.length≤cs.length):X5 σ b o vs=some (σ.set b (.cells (AK cs o vs) T true)):=by
 simp only[X5,hb]
 rw[if_pos h]
theorem Aaz {T:TypeId} {x y:Operand} {call:GL} {q:Bool} {ty:TypeId} {e:Operand→Option Value} {σ:Aa} {K:Value→Aa→Option ρ} {r:ρ} {o:Oper} (ho:o.op = .store T x y)
  (h:La P call q (.store T x y) ty e σ K=some r):∃ v σ',K v σ'=some r∧σ.length≤σ'.length∧zu P o e σ v σ' ∧ ∃ a,e x=some (.pointer (some a)) ∧ ∀ b,b≠a.block→σ'[b]?=σ[b]?:=by
 simp only[La,Option.bind_eq_some_iff] at h
 obtain ⟨v,hv,u,hu,h⟩:=h
 cases v with
 | pointer a0=>
   simp only[Option.bind_eq_some_iff] at h
   obtain ⟨a,ha,h⟩:=h
   subst ha
   have main:∀ (vs:List Value) (σ':Aa),IK P T=some u.cells.size→u.cells.toList=vs→GW u=false→X5 σ a.block a.off vs=some σ'→zu P o e σ undef σ':=by
    intro vs σ' hsz hvs ht hst μ w f hR hfr hf
    obtain ⟨cs,T',hb,hlen,rfl⟩:=YK hst
    obtain ⟨k,hk,hfx⟩:=pq (hf x _ hv)
    obtain ⟨h1,h2,h3⟩:=Lt (hf y u hu) ht
    rw[hvs] at h1 h2
    obtain ⟨w',hrun,hR',hS⟩:=O8 hR hk hb h1 h2 hlen
    refine ⟨μ,undef,w',.inr ⟨?_,rfl⟩,Y2,hR',hS⟩
    refine TH (by simp only[execOp,ho] <;> rfl) ?_
    have hsz':¬ (f y).cells.size≠u.cells.size:=by
     have:=h1.length
     rw[← hvs] at this
     simp at this ⊢; omega
    simp only[hfx,Instr.storeAt,Instr.sureAddr,Sem.run_bind,Sem.run_pure,Result.andThen_ok,storeVar,run_sizeOf hsz]
    rw[if_neg hsz']
    exact hrun
   cases u with
   | agg vs=>
     simp only at h
     split at h
     ·rename_i hsz
      simp only[Option.bind_eq_some_iff] at h
      obtain ⟨σ',hst,h⟩:=h
      refine ⟨_,σ',h, ?_,main vs.toList σ' hsz rfl rfl hst,a,hv, ?_⟩
      ·obtain ⟨cs,T',hb,hlen,rfl⟩:=YK hst
       simp
      ·obtain ⟨cs,T',hb,hlen,rfl⟩:=YK hst
       exact fun b hb=>List.getElem?_set_ne (Ne.symm hb)
     ·cases h
   | tuple vs=>simp at h
   | _=>
     simp only at h
     split at h
     ·rename_i hsz
      simp only[Option.bind_eq_some_iff] at h
      obtain ⟨σ',hst,h⟩:=h
      obtain ⟨cs,T',hb,hlen,rfl⟩:=Aes hst
      exact ⟨_,_,h,by simp,main _ _ hsz rfl rfl (Abi hb hlen),a,hv,fun b hb=>List.getElem?_set_ne (Ne.symm hb)⟩
     ·cases h
 | _=>cases h
theorem qw {T:TypeId} {m i y:Operand} {call:GL} {q:Bool} {ty:TypeId} {e:Operand→Option Value} {σ:Aa} {K:Value→Aa→Option ρ} {r:ρ} {o:Oper} (ho:o.op = .mapUpdate T m i y)
  (h:La P call q (.mapUpdate T m i y) ty e σ K=some r):∃ v σ',K v σ'=some r∧σ.length≤σ'.length∧zu P o e σ v σ':=by
 simp only[La,Option.bind_eq_some_iff] at h
 obtain ⟨mv,hm,kv,hk,u,hu,h⟩:=h
 split at h
 rotate_left
 ·cases h
 rename_i kt E rr k hT
 split at h
 rotate_left
 ·cases h
 rename_i hkt
 simp only[Option.bind_eq_some_iff] at h
 obtain ⟨r',hr',es,hes,h⟩:=h
 subst hr'
 refine ⟨_,_,h,by simp,fun μ w f hR hfr hf=>?_⟩
 have hki:=dw hkt
 obtain ⟨kb,hkb,hfm⟩:=kz (hf m _ hm)
 have hfi:=gC (hf i _ hk)
 have hru:=hf y u hu
 obtain ⟨entries,clock,hh,hre⟩:=kh hR hes hkb
 have hb:σ[r']?=some (.map es):=by
  unfold Yn at hes
  split at hes
  ·cases hes; assumption
  ·cases hes
 have hfind:=findNow_spec (k:=k) es entries.toList 0 hre
 have hck:=Zg (P:=P) (k:=.i64) (a:=k) hki false 9999 w
 cases hg:TF es k with
 | none=>
   rw[hg] at hfind
   obtain ⟨h1,h2,h3⟩:=hfind
   have hre2:ez μ (es++[(k,u)]) (entries.push { key:=.int .i64 k,val:=f y,born:=clock }).toList:=by
    rw[Array.toList_push]; exact hre.push hru clock
   obtain ⟨hR',hS⟩:=Tn hR hkb hb (clock+1) hre2
   rw[h2]
   refine ⟨μ,undef,_,.inr ⟨?_,rfl⟩,Y2,hR',hS⟩
   refine TH (by simp only[execOp,ho] <;> rfl) ?_
   simp only[hfm,hfi,Instr.mapUpdate,Sem.run_bind,run_underlying hT,Result.andThen_ok,My hh,hck,Instr.findKey,run_underlying hki,h1,Sem.run_pure,VL hh]
 | some u0=>
   rw[hg] at hfind
   obtain ⟨j,e',h1,h2,h3,h4,h5,h6,h7⟩:=hfind
   rw[Nat.zero_add] at h1
   have hre2:ez μ (es.set j (k,u)) (entries.modify j fun e=>{ e with key:=.int .i64 k,val:=f y }).toList:=by
    rw[Array.toList_modify]; exact hre.set hru j
   obtain ⟨hR',hS⟩:=Tn hR hkb hb clock hre2
   rw[h5]
   refine ⟨μ,undef,_,.inr ⟨?_,rfl⟩,Y2,hR',hS⟩
   refine TH (by simp only[execOp,ho] <;> rfl) ?_
   have he:entries[j]?=some e':=by simpa using h2
   have hks:(Instr.keyThatStays (.int .i64 k) (.int .i64 k)).run P w = .ok (.int .i64 k) w:=by
    simp[Instr.keyThatStays,Instr.sameBits]
   simp only[hfm,hfi,Instr.mapUpdate,Sem.run_bind,run_underlying hT,Result.andThen_ok,My hh,hck,Instr.findKey,run_underlying hki,h1,Sem.run_pure,he,Option.map_some,Option.getD_some,h3,hks,VL hh]
end Go.AX
end
section
namespace Go.AX
open Go
variable {ρ:Type} {P:Program} [AA]
theorem Abb {need Rl bytes:Nat} (h:Rl<need) (hr:Q9 need bytes):¬ Builtin.nextslicecap need Rl*bytes>2 ^ 48:=by
 have h1:=nextslicecap_le h
 have h2:Builtin.nextslicecap need Rl*bytes≤2*need*bytes:=Nat.mul_le_mul_right _ h1
 have h3:2*need*bytes=2*(need*bytes):=Nat.mul_assoc _ _ _
 have:=hr.1
 omega
section
variable {t t' ty E E':TypeId} {s by_ n l c:Nat} {base:Option Addr} {x:Value} {new Rl:Array Value} {w w':World}
theorem Mx (ht:P.underlying t=some (.slice E)) (ht':P.underlying t'=some (.slice E')) (hs:IK P E=some s) (hlen:(Builtin.lenOf x).run P w = .ok n w)
  (hfit:l+n≤c) (hnew:(Builtin.firstCells s n x).run P w = .ok new w) (hst:(match base with | some a=>storeCells (a.add (l*s)) new.toList | none=>pure ()).run P w = .ok () w'):
  (Builtin.append_ #[t,t'] ty #[.slice base l c,x]).run P w = .ok (.slice base (l+n) c) w':=by
 cases base with
 | none=>
   simp only[Sem.run_pure] at hst
   cases hst
   simp[Builtin.append_,run_underlying ht,run_underlying ht',run_sizeOf hs,hlen,hfit,hnew]
 | some a=>
   simp only at hst
   simp[Builtin.append_,run_underlying ht,run_underlying ht',run_sizeOf hs,hlen,hfit,hnew,hst]
theorem run_append_grow (ht:P.underlying t=some (.slice E)) (ht':P.underlying t'=some (.slice E')) (hs:IK P E=some s) (hby:bytesOf P E=some by_) (hlen:(Builtin.lenOf x).run P w = .ok n w)
  (hfit:¬ l+n≤c) (hroom:Q9 (l+n) by_) (hb0:0<by_) (z:Value) (hz:FR P E=some z)
  (hold:(Builtin.firstCells s l (.slice base l c)).run P w.drew = .ok Rl w.drew) (hnew:(Builtin.firstCells s n x).run P w.drew = .ok new w.drew):
  ∃ cap rest,l+n≤cap∧rest=Builtin.zeroCells z.cells (cap-(l+n)) ∧
   (Builtin.append_ #[t,t'] ty #[.slice base l c,x]).run P w = .ok (.slice (some ⟨w.heap.size,0,none⟩) (l+n) cap) (w.drew.alloc (.cells (Rl++new++rest) E)):=by
 obtain ⟨hz1,hz2⟩:=Mz hz w.drew
 have hcut:l+n≤grownCap w (l+n) c E:=by unfold grownCap; simp only[Question.cut]; omega
 refine ⟨_,_,hcut,rfl, ?_⟩
 unfold bytesOf at hby
 simp only[Option.map_eq_some_iff] at hby
 obtain ⟨i,hi,hib⟩:=hby
 have hrm:=Abb (Rl:=c) (by omega) hroom
 rw[← hib] at hrm hb0
 have hb0':i.bytes≠0:=by omega
 have h48':¬ (281474976710656<Builtin.nextslicecap (l+n) c*i.bytes):=by omega
 have hty:∀ w,(typeInfo E).run P w = .ok i w:=fun w=>by simp[typeInfo,hi]
 simp[Builtin.append_,run_underlying ht,run_underlying ht',run_sizeOf hs,hlen,hfit,hty,hb0',h48',Question.forced,hold,hnew,hz1,newRow,grownCap]
end
theorem JB {μ:Mu} {σ:Aa} {w:World} (hR:R P μ σ w) {x:Option Addr} {l c m:Nat} {v':Value} (hv:RV μ (.slice x l c) v') {s:Nat} {new:List Value} (hm:m≤l) (h:Dq σ s x m=some new):
  ∃ new',K9 μ new new'∧(Builtin.firstCells s m v').run P w = .ok new'.toArray w∧(Builtin.lenOf v').run P w = .ok l w∧(∀ v ∈ new,v.oneCell'=true)∧(x≠none→new.length=m*s):=by
 unfold Dq at h
 cases hv with
 | sliceNil=>
   have hm0:m=0:=by omega
   subst hm0
   simp at h
   subst h
   exact ⟨[],.nil,rfl,rfl,by simp,by simp⟩
 | @sliceZ a z y hz=>
   have hm0:m=0:=by omega
   subst hm0
   simp only[Nat.zero_mul] at h
   obtain ⟨hlen,hld⟩:=Q6 h
   have:new=[]:=List.eq_nil_of_length_eq_zero hlen
   subst this
   refine ⟨[],.nil, ?_,rfl,by simp,by simp⟩
   simp only[Builtin.firstCells,Nat.zero_mul]; rfl
 | @slice a k _ _ c' hk hsp hl hc hm'=>
   simp only at h
   obtain ⟨hlen,hld⟩:=Q6 h
   obtain ⟨vs',hr,hrun,hleaf⟩:=MX hR hk hlen hld
   refine ⟨vs',hr, ?_,rfl,hleaf,fun _=>hlen⟩
   simp only[Builtin.firstCells]
   exact hrun
 | @sliceEnd a k o' c' hk hsp hm'=>
   have hm0:m=0:=by omega
   subst hm0
   simp only[Nat.zero_mul] at h
   obtain ⟨hlen,hld⟩:=Q6 h
   have:new=[]:=List.eq_nil_of_length_eq_zero hlen
   subst this
   refine ⟨[],.nil, ?_,rfl,by simp,by simp⟩
   simp only[Builtin.firstCells,Nat.zero_mul]; rfl
theorem ZD (cs:List Value) (o:Nat) (h:o≤cs.length):AK cs o []=cs:=by simp[AK]
theorem cP {σ:Aa} {b:Nat} {o:A6} (h:σ[b]?=some o):σ.set b o=σ:=by
 apply List.ext_getElem?
 intro i
 rw[List.getElem?_set]
 split
 ·rename_i he; subst he
  obtain ⟨h1,h2⟩:=List.getElem?_eq_some_iff.1 h
  simp[h1,h2]
 ·rfl
theorem wz {σ:Aa} {b:Nat} (h:Jb σ b=true):Ay σ b:=by
 unfold Jb at h
 unfold Ay
 split at h
 ·rename_i hb; subst h; rw[hb]; trivial
 ·rename_i hb; rw[hb]; trivial
 ·cases h
theorem bp {σ:Aa} {b:Nat} (h:Ay σ b):alive σ b:=by
 unfold Ay at h
 split at h
 ·rename_i hb; exact ⟨_,hb,by simp⟩
 ·rename_i hb; exact ⟨_,hb,by simp⟩
 ·rename_i hb; exact ⟨_,hb,by simp⟩
 ·cases h
theorem R.Aec {μ:Mu} {σ:Aa} {w:World} (hR:R P μ σ w) (hf:μ σ.length=none) {b:Nat} {k:kJ} (hk:μ b=some k) {E:TypeId} {cs:List Value} (hb:σ[b]?=some (.cells cs E true)) {off l n c' s:Nat} (hs:k.s=s)
  {Rl new new':List Value} (hold:Z1 σ b off (l*s)=some Rl∨(Rl=[]∧l=0)) (hnew:K9 μ new new') (hl:∀ v ∈ new,v.oneCell'=true) (hnl:new.length=n*s) (hfit:l+n≤c') (hm:off+c'*s≤k.m):
  ∃ w' μ',(storeCells ⟨k.b,k.o+off+l*s,none⟩ new').run P w = .ok () w'∧R P μ' (σ.set b .dead++[.cells (Rl++new) E true]) w'∧Step μ σ w μ' (σ.set b .dead++[.cells (Rl++new) E true]) w' ∧
   μ' σ.length=some ⟨k.b,k.o+off,s,(l+n)*s,c'*s⟩:=by
 obtain ⟨c,T',fz,hx,h1,h2,h3,h4,h5,h6,h7⟩:=hR.obj _ _ _ hb hk
 have hfz:=h5 rfl
 subst hfz
 have hvl:=hnew.length
 have hmul:(l+n)*s≤c'*s:=Nat.mul_le_mul_right _ hfit
 have hadd:(l+n)*s=l*s+n*s:=Nat.add_mul _ _ _
 have hrun:=run_storeCells_at P k.b (k.o+off+l*s) T' new' 0 c w hx (by omega) (hnew.leaf hl)
 have hbl:b<σ.length:=(List.getElem?_eq_some_iff.1 hb).1
 have hal:alive σ b:=⟨_,hb,by simp⟩
 have hwr:Ay σ b:=by unfold Ay; rw[hb]; trivial
 have e:(c.toList.take (k.o+off+l*s+0)++new'++c.toList.drop (k.o+off+l*s+0+new'.length)).toArray.toList=AK c.toList (k.o+off+l*s) new':=by simp[AK]
 have hlen:(AK c.toList (k.o+off+l*s) new').length=c.size:=by rw[Ja (by simp; omega)]; simp
 have hc:(w.setRow k.b (c.toList.take (k.o+off+l*s+0)++new'++c.toList.drop (k.o+off+l*s+0+new'.length)).toArray).heap[k.b]?=some (.cells _ T' (0,0)):=setRow_heap w k.b c _ T' _ hx
 have hother:∀ b',b'≠k.b→(w.setRow k.b (c.toList.take (k.o+off+l*s+0)++new'++c.toList.drop (k.o+off+l*s+0+new'.length)).toArray).heap[b']?=w.heap[b']?:=fun b' hb'=>setRow_other w k.b b' _ hb'
 generalize hw':w.setRow k.b (c.toList.take (k.o+off+l*s+0)++new'++c.toList.drop (k.o+off+l*s+0+new'.length)).toArray=w' at *
 have hsz:w'.heap.size=w.heap.size:=by rw[← hw']; exact size_setRow _ _ _
 have ht:w'.tape=w.tape:=by rw[← hw']; rfl
 have hos:w'.os=w.os:=by rw[← hw']; rfl
 have hout:w'.output=w.output:=by rw[← hw']; rfl
 have hle:μ.le (μ.put σ.length ⟨k.b,k.o+off,s,(l+n)*s,c'*s⟩):=Mu.Adu hf
 have hsl:(σ.set b .dead).length=σ.length:=by simp
 refine ⟨w',μ.put σ.length ⟨k.b,k.o+off,s,(l+n)*s,c'*s⟩,hrun,⟨?_, ?_, ?_⟩, ?_,Mu.FM _ _ _⟩
 ·intro x o kx hx' hkx
  by_cases hxl:x=σ.length
  ·subst hxl
   rw[Mu.FM] at hkx; cases hkx
   rw[List.getElem?_append_right (by omega),hsl,Nat.sub_self] at hx'
   simp only[List.getElem?_cons_zero,Option.some.injEq] at hx'
   subst hx'
   rw[hc]
   have hol:Rl.length=l*s:=by
    rcases hold with h | ⟨rfl,rfl⟩
    ·exact (Q6 h).1
    ·simp
   refine ⟨_,T',(0,0),rfl,by rw[List.length_append,hol,hnl,hadd],hmul, ?_,by rw[← hs]; exact h4,fun _=>rfl, ?_, ?_⟩
   ·rw[← Array.length_toList,e,hlen]; simp only; omega
   ·intro v hv
    rcases List.mem_append.1 hv with hv | hv
    ·rcases hold with h | ⟨rfl,rfl⟩
     ·obtain ⟨j,hj,hjv⟩:=List.getElem_of_mem hv
      have:=(Q6 h).2 j v (by rw[List.getElem?_eq_getElem hj,hjv])
      obtain ⟨_,_,_,g⟩:=cell_of hR this hk
      exact g
     ·simp at hv
    ·exact hl v hv
   ·rw[e]
    refine K9.xB ?_ ?_
    ·rw[List.length_append,hol,hnl,List.length_take,List.length_drop,hlen]; simp only; omega
    ·intro i x x' hx1 hx2
     simp only at hx2
     have hi:i<(l+n)*s:=by
      have:=(List.getElem?_eq_some_iff.1 hx1).1
      rw[List.length_append,hol,hnl] at this; omega
     rw[List.getElem?_take,if_pos hi,List.getElem?_drop,UE (by simp; omega)] at hx2
     by_cases hil:i<l*s
     ·rw[List.getElem?_append_left (by omega)] at hx1
      rw[if_pos (by omega)] at hx2
      rcases hold with h | ⟨rfl,rfl⟩
      ·obtain ⟨y,hy,hr,_⟩:=cell_of hR ((Q6 h).2 i x hx1) hk
       simp only[World.cell?,hx] at hy
       have hy':c.toList[k.o+(off+i)]?=some y:=by simpa using hy
       rw[show k.o+off+i=k.o+(off+i) by omega,hy'] at hx2
       cases hx2
       exact hr.mono hle
      ·simp at hx1
     ·rw[List.getElem?_append_right (by omega),hol] at hx1
      rw[if_neg (by omega),if_pos (by omega),show k.o+off+i-(k.o+off+l*s)=i-l*s by omega] at hx2
      obtain ⟨y,hy,hr⟩:=hnew.get _ x hx1
      rw[hy] at hx2; cases hx2
      exact hr.mono hle
  ·rw[Mu.Gc μ _ hxl] at hkx
   have hxlt:x<σ.length:=by
    have:=(List.getElem?_eq_some_iff.1 hx').1
    simp at this; omega
   rw[List.getElem?_append_left (by omega)] at hx'
   by_cases hxb:x=b
   ·subst hxb
    rw[List.getElem?_set_self hbl] at hx'
    cases hx'; trivial
   ·rw[List.getElem?_set_ne (Ne.symm hxb)] at hx'
    by_cases hd:o = .dead
    ·subst hd; trivial
    ·have hne:kx.b≠k.b:=fun he=>hxb (hR.inj x b kx k hkx hk ⟨o,hx',hd⟩ hal (.inr hwr) he)
     rw[hother _ hne]
     exact (hR.obj x o kx hx' hkx).mono hle
 ·intro x kx hkx
  by_cases hxl:x=σ.length
  ·subst hxl; rw[Mu.FM] at hkx; cases hkx; rw[hsz]; exact hR.lt b k hk
  ·rw[Mu.Gc μ _ hxl] at hkx; rw[hsz]; exact hR.lt x kx hkx
 ·have hal':∀ x,x≠σ.length→alive (σ.set b .dead++[.cells (Rl++new) E true]) x→alive σ x∧x≠b:=by
   intro x hxl ⟨o,ho,hd⟩
   have hxlt:x<σ.length:=by
    have:=(List.getElem?_eq_some_iff.1 ho).1
    simp at this; omega
   rw[List.getElem?_append_left (by omega)] at ho
   by_cases hxb:x=b
   ·subst hxb; rw[List.getElem?_set_self hbl] at ho; cases ho; exact absurd rfl hd
   ·rw[List.getElem?_set_ne (Ne.symm hxb)] at ho; exact ⟨⟨o,ho,hd⟩,hxb⟩
  have hwal:∀ x,x≠σ.length→x≠b→Ay (σ.set b .dead++[.cells (Rl++new) E true]) x→Ay σ x:=by
   intro x hxl hxb hwx
   have hwx:=Sm (by simpa using hxl) hwx
   unfold Ay at hwx ⊢
   rwa [List.getElem?_set_ne (Ne.symm hxb)] at hwx
  intro x y kx ky hx' hy' hax hay hww hxy
  by_cases hxl:x=σ.length <;> by_cases hyl:y=σ.length
  ·omega
  ·subst hxl; rw[Mu.FM] at hx'; cases hx'
   rw[Mu.Gc μ _ hyl] at hy'
   obtain ⟨g1,g2⟩:=hal' y hyl hay
   exact absurd (hR.inj y b ky k hy' hk g1 hal (.inr hwr) hxy.symm) g2
  ·subst hyl; rw[Mu.FM] at hy'; cases hy'
   rw[Mu.Gc μ _ hxl] at hx'
   obtain ⟨g1,g2⟩:=hal' x hxl hax
   exact absurd (hR.inj x b kx k hx' hk g1 hal (.inr hwr) hxy) g2
  ·rw[Mu.Gc μ _ hxl] at hx'
   rw[Mu.Gc μ _ hyl] at hy'
   exact hR.inj x y kx ky hx' hy' (hal' x hxl hax).1 (hal' y hyl hay).1 (hww.imp (hwal x hxl (hal' x hxl hax).2) (hwal y hyl (hal' y hyl hay).2)) hxy
 ·refine ⟨by simp, ?_, ?_, ?_,by omega,ht,hos,hout, ?_⟩
  ·intro x hx'; exact Mu.Gc μ _ (by simp at hx'; omega)
  ·intro x hx' hwx
   by_cases hxb:x=b
   ·subst hxb; exact hwr
   ·unfold Ay at hwx ⊢
    rwa [List.getElem?_append_left (by omega),List.getElem?_set_ne (Ne.symm hxb)] at hwx
  ·intro x kx hx1 hx2 hkx
   have:x=σ.length:=by simp at hx2; omega
   subst this
   rw[Mu.FM] at hkx; cases hkx
   exact .inr ⟨b,k,hbl,hk,rfl,hwr⟩
  ·intro b' hb' hn
   exact hother b' fun he=>hn b k hbl hk he.symm hwr
end Go.AX
end
section
namespace Go.AX
open Go
variable {ρ:Type} {P:Program} [AA]
theorem ub (z:Array Value) (n:Nat) (hz:0<z.size):(Builtin.zeroCells z n).toList=rep n z.toList:=X4 z n hz
theorem vd {μ:Mu} {a:Option Addr} {l c:Nat} {d:Value} (hf:Ik a=true) (h:RV μ (.slice a l c) d):l=0∧c=0 ∧ ∃ y,d = .slice y 0 0:=by
 cases h with
 | sliceNil=>exact ⟨rfl,rfl,_,rfl⟩
 | sliceZ y hz=>exact ⟨rfl,rfl,_,rfl⟩
 | slice hk hs _ _ _=>simp[Ik,hs] at hf
 | sliceEnd hk hs _=>simp[Ik,hs] at hf
theorem vq {a:Option Addr} (h:Ik a=false):∃ a0,a=some a0∧a0.spot=none:=by
 cases a with
 | none=>cases h
 | some a=>cases hs:a.spot with
   | none=>exact ⟨a,rfl,hs⟩
   | some z=>simp[Ik,hs] at h
theorem wR {E:TypeId} {t t' E' ty:TypeId} {a a':Option Addr} {l c l' c':Nat} {σ:Aa} {K:Value→Aa→Option ρ} {r:ρ} (ht:P.underlying t=some (.slice E)) (ht':P.underlying t'=some (.slice E'))
  (h:PZ P E (a,l,c) (a',l',c') σ K=some r):∃ v σ',K v σ'=some r∧σ.length≤σ'.length ∧
   ∀ (μ:Mu) (w:World) (d x:Value),R P μ σ w→HT μ σ.length σ'.length→RV μ (.slice a l c) d→RV μ (.slice a' l' c') x →
    ∃ μ' v' w',(Builtin.append_ #[t,t'] ty #[d,x]).run P w = .ok v' w'∧RV μ' v v'∧R P μ' σ' w'∧Step μ σ w μ' σ' w':=by
 unfold PZ at h
 simp only[Option.bind_eq_some_iff] at h
 obtain ⟨s,hs,by_,hby,new,hnew,z,hz,h⟩:=h
 split at h
 ·cases h
 rename_i hzz
 have hzz:GW z=false∧IK P E=some z.cells.size∧0<z.cells.size:=Classical.not_not.1 hzz
 obtain ⟨hzt,hzs,hz0⟩:=hzz
 rw[hs] at hzs
 cases hzs
 split at h
 ·rename_i hfit
  cases hfx:Ik a with
  | true=>
    rw[hfx] at h
    simp only[cond_true] at h
    split at h
    ·rename_i hn0
     refine ⟨_,σ,h,Nat.le_refl _,fun μ w d x hR hfr hd hx=>?_⟩
     obtain ⟨new',h1,h2,h3,h4,h5⟩:=JB hR hx (Nat.le_refl _) hnew
     have hl'0:l'=0:=by omega
     have hl0:l=0:=by omega
     subst hl'0; subst hl0
     have hnil:new'=[]:=by
      cases a' with
      | none=>simp[Dq] at hnew; subst hnew; cases h1; rfl
      | some a'=>
        have:=h5 (by simp)
        simp at this; subst this; cases h1; rfl
     subst hnil
     obtain ⟨_,rfl,y,rfl⟩:=vd hfx hd
     refine ⟨μ,.slice y (0+0) 0,w,Mx ht ht' hs h3 (by omega) h2 ?_,hd,hR,Step.refl _ _ _⟩
     cases y <;> simp[storeCells]
    ·cases h
  | false=>
    rw[hfx] at h
    obtain ⟨a0,rfl,hsp0⟩:=vq hfx
    simp only[cond_false,Option.bind_eq_some_iff,Option.some.injEq,exists_eq_left'] at h
    obtain ⟨σ',hst,h⟩:=h
    obtain ⟨cs,T,hb,hlen,rfl⟩:=YK hst
    refine ⟨_,_,h,by simp,fun μ w d x hR hfr hd hx=>?_⟩
    obtain ⟨new',h1,h2,h3,h4,h5⟩:=JB hR hx (Nat.le_refl _) hnew
    cases hd with
    | @slice _ k _ _ c2 hk hsp hl hc hm=>
      obtain ⟨w',hrun,hR',hS⟩:=O8 hR hk hb h1 h4 hlen
      refine ⟨μ,_,w',Mx ht ht' hs h3 (Nat.le_trans hfit hc) h2 ?_,.slice hk hsp hfit hc hm,hR',hS⟩
      simp only[NF,← Nat.add_assoc] at hrun ⊢
      exact hrun
    | @sliceEnd _ k o' c2 hk hsp hm=>
      have hl'0:l'=0:=by omega
      subst hl'0
      have hnew0:new=[]∧new'=[]:=by
       cases a' with
       | none=>simp[Dq] at hnew; subst hnew; cases h1; exact ⟨rfl,rfl⟩
       | some a'=>
         have:=h5 (by simp)
         simp at this; subst this; cases h1; exact ⟨rfl,rfl⟩
      obtain ⟨rfl,rfl⟩:=hnew0
      rw[ZD _ _ (by simpa using hlen),cP hb]
      refine ⟨μ,_,w,Mx ht ht' hs h3 (by omega) h2 ?_,.sliceEnd hk hsp hm,hR,Step.refl _ _ _⟩
      simp[storeCells]
    | sliceZ y hz=>rw[hsp0] at hz; cases hz
 ·rename_i hfit
  split at h
  rotate_left
  ·cases h
  rename_i hroom
  obtain ⟨hroom,hb0⟩:=hroom
  cases hfx:Ik a with
  | true=>
    rw[hfx] at h
    simp only[cond_true] at h
    split at h
    ·rename_i hl0
     refine ⟨_,_,h,by simp,fun μ w d x hR hfr hd hx=>?_⟩
     subst hl0
     obtain ⟨new',h1,h2,h3,h4,h5⟩:=JB (w:=w.drew) hR.drew hx (Nat.le_refl _) hnew
     have h3':(Builtin.lenOf x).run P w = .ok l' w:=by
      cases hx <;> rfl
     have hl':new.length=l'*z.cells.size:=by
      cases a' with
      | none=>
        unfold Dq at hnew
        simp only at hnew
        split at hnew
        ·cases hnew; simp[*]
        ·cases hnew
      | some a'=>exact h5 (by simp)
     obtain ⟨_,rfl,y,rfl⟩:=vd hfx hd
     have hold:(Builtin.firstCells z.cells.size 0 (.slice y 0 0)).run P w.drew = .ok #[] w.drew:=by
      cases y with
      | none=>rfl
      | some a=>simp only[Builtin.firstCells,Nat.zero_mul]; rfl
     obtain ⟨cap,rest,hcap,hrest,hrun⟩:=run_append_grow (ty:=ty) ht ht' hs hby h3' hfit hroom hb0 z hz hold h2
     have hrl:rest.toList.length=(cap-l')*z.cells.size:=by rw[hrest]; simp[Builtin.zeroCells]
     have hnl':=h1.length
     have hsum:l'*z.cells.size+(cap-l')*z.cells.size=cap*z.cells.size:=by
      rw[← Nat.add_mul]; congr 1; omega
     refine ⟨μ.put σ.length ⟨w.heap.size,0,z.cells.size,l'*z.cells.size,cap*z.cells.size⟩,_,_,hrun, ?_, ?_,(Step.drew μ σ w).trans (Step.alloc rfl)⟩
     ·rw[Nat.zero_add]
      refine RV.slice (a:=⟨σ.length,0,none⟩) (Mu.FM _ _ _) rfl (Nat.le_refl _) (by omega) (by simp)
     ·refine hR.drew.alloc (hfr _ (Nat.le_refl _) (by simp)) rfl ?_
      refine ⟨_,E,(0,0),rfl,hl',by simp only; rw[← hsum]; omega, ?_,(Mj hs).symm,fun _=>rfl,h4, ?_⟩
      ·simp only[Array.size_append,Array.size_empty,List.size_toArray,Nat.zero_add]
       have:rest.size=(cap-l')*z.cells.size:=by simpa using hrl
       omega
      ·simp only[Array.toList_append,List.drop_zero,Array.toList_empty,List.nil_append]
       rw[List.take_append_of_le_length (by omega),List.take_of_length_le (by omega)]
       exact h1
    ·cases h
  | false=>
    rw[hfx] at h
    obtain ⟨a0,rfl,hsp0⟩:=vq hfx
    simp only[cond_false,Option.bind_eq_some_iff,Option.some.injEq,exists_eq_left'] at h
    split at h
    rotate_left
    ·cases h
    rename_i hel
    simp only[Option.bind_eq_some_iff] at h
    obtain ⟨Rl,hold,h⟩:=h
    cases hwb:Jb σ a0.block with
    | false=>rw[hwb] at h; cases h
    | true=>
      rw[hwb] at h
      simp only[cond_true] at h
      refine ⟨_,_,h,by simp,fun μ w d x hR hfr hd hx=>?_⟩
      have hb:∃ cs,σ[a0.block]?=some (.cells cs E true):=by
       unfold elemAt at hel
       unfold Jb at hwb
       split at hel
       ·rename_i hq; cases hel; rw[hq] at hwb; simp only at hwb; subst hwb; exact ⟨_,hq⟩
       ·cases hel
      obtain ⟨cs,hb⟩:=hb
      have hbl:a0.block<σ.length:=(List.getElem?_eq_some_iff.1 hb).1
      obtain ⟨new',h1,h2,h3,h4,h5⟩:=JB hR hx (Nat.le_refl _) hnew
      obtain ⟨new'',g1,g2,g3,g4,g5⟩:=JB (w:=w.drew) hR.drew hx (Nat.le_refl _) hnew
      have hl':new.length=l'*z.cells.size:=by
       cases a' with
       | none=>
         unfold Dq at hnew
         simp only at hnew
         split at hnew
         ·cases hnew; simp[*]
         ·cases hnew
       | some a'=>exact h5 (by simp)
      have hfresh:μ σ.length=none:=hfr _ (Nat.le_refl _) (by simp)
      have hadd:(l+l')*z.cells.size=l*z.cells.size+l'*z.cells.size:=Nat.add_mul _ _ _
      have grow:∀ (d:Value) (y:Option Addr) (c2:Nat),d = .slice y l c2→¬ l+l'≤c2 → ∀ (old':List Value),K9 μ Rl old'→(Builtin.firstCells z.cells.size l d).run P w.drew = .ok old'.toArray w.drew→(∀ v ∈ Rl,v.oneCell'=true) →
        ∃ μ' v' w',(Builtin.append_ #[t,t'] ty #[d,x]).run P w = .ok v' w'∧RV μ' (.slice (some ⟨σ.length,0,none⟩) (l+l') (l+l')) v' ∧
         R P μ' (σ.set a0.block .dead++[A6.cells (Rl++new) E true]) w'∧Step μ σ w μ' (σ.set a0.block .dead++[A6.cells (Rl++new) E true]) w':=by
       intro d y c2 hdd hnf old' ho1 ho2 ho3
       subst hdd
       obtain ⟨cap,rest,hcap,hrest,hrun⟩:=run_append_grow (ty:=ty) ht ht' hs hby h3 hnf hroom hb0 z hz ho2 g2
       have hrl:rest.size=(cap-(l+l'))*z.cells.size:=by rw[hrest]; simp[Builtin.zeroCells]
       have hol:=(Q6 hold).1
       have hol':=ho1.length
       have hnl':=g1.length
       have hsum:(l+l')*z.cells.size+(cap-(l+l'))*z.cells.size=cap*z.cells.size:=by
        rw[← Nat.add_mul]; congr 1; omega
       obtain ⟨k,hk⟩:∃ k,μ a0.block=some k:=by
        cases hd with
        | sliceZ y hz=>rw[hsp0] at hz; cases hz
        | slice hkk _ _ _ _=>exact ⟨_,hkk⟩
        | sliceEnd hkk _ _=>exact ⟨_,hkk⟩
       have hwr:Ay σ a0.block:=wz hwb
       have hR1:R P μ (σ.set a0.block .dead) w.drew:=hR.drew.upd hk (bp hwr) hwr rfl (fun _ _=>rfl) trivial
       have hS1:Step μ σ w μ (σ.set a0.block .dead) w.drew:=Step.upd hk hbl hwr rfl rfl rfl rfl (fun _ _=>rfl)
       have hsl:(σ.set a0.block .dead).length=σ.length:=by simp
       refine ⟨μ.put σ.length ⟨w.heap.size,0,z.cells.size,(l+l')*z.cells.size,cap*z.cells.size⟩,_,_,hrun, ?_, ?_,hS1.trans ?_⟩
       ·exact RV.slice (a:=⟨σ.length,0,none⟩) (Mu.FM _ _ _) rfl (Nat.le_refl _) (by omega) (by simp)
       ·rw[← hsl]
        refine hR1.alloc (by rw[hsl]; exact hfresh) rfl ?_
        refine ⟨_,E,(0,0),rfl,by rw[List.length_append,hol,hl',hadd],by simp only; omega, ?_,(Mj hs).symm,fun _=>rfl, ?_, ?_⟩
        ·simp only[Array.size_append,List.size_toArray]
         omega
        ·intro v hv
         rcases List.mem_append.1 hv with hv | hv
         ·exact ho3 v hv
         ·exact h4 v hv
        ·simp only[Array.toList_append,List.drop_zero]
         rw[List.take_append_of_le_length (by rw[List.length_append]; omega),List.take_of_length_le (by rw[List.length_append]; omega)]
         exact ho1.append g1
       ·rw[← hsl]; exact Step.alloc rfl
      cases hd with
      | @slice _ k _ _ c2 hk hsp hl hc hm=>
        have hsz:=Zr hR hel hk
        rw[Mj hs] at hsz
        obtain ⟨hol,hold1⟩:=Q6 hold
        obtain ⟨old',ho1,ho2,ho3⟩:=MX hR.drew hk hol hold1
        by_cases hfit2:l+l'≤c2
        ·obtain ⟨w',μ',hrun,hR',hS,hμ⟩:=hR.Aec hfresh hk hb hsz (.inl hold) h1 h4 hl' hfit2 (by rw[hsz] at hm; exact hm)
         refine ⟨μ',_,w',Mx ht ht' hs h3 hfit2 h2 ?_, ?_,hR',hS⟩
         ·simp only[NF]; exact hrun
         ·exact RV.slice (a:=⟨σ.length,0,none⟩) hμ rfl (Nat.le_refl _) hfit2 (by simp)
        ·exact grow _ _ _ rfl hfit2 old' ho1 (by simpa [Builtin.firstCells] using ho2) ho3
      | @sliceEnd _ k o' c2 hk hsp hm=>
        have hsz:=Zr hR hel hk
        rw[Mj hs] at hsz
        have holdn:Rl=[]:=by
         have:=(Q6 hold).1
         simpa using this
        subst holdn
        by_cases hfit2:0+l'≤c2
        ·obtain ⟨w',μ',hrun,hR',hS,hμ⟩:=hR.Aec (off:=o') (l:=0) (Rl:=[]) hfresh hk hb hsz (.inr ⟨rfl,rfl⟩) h1 h4 hl' hfit2 (by rw[hsz] at hm; exact hm)
         refine ⟨μ',_,w',Mx ht ht' hs h3 hfit2 h2 ?_, ?_,hR',hS⟩
         ·simp only[NF]; exact hrun
         ·exact RV.slice (a:=⟨σ.length,0,none⟩) hμ rfl (Nat.le_refl _) hfit2 (by simp)
        ·exact grow _ _ _ rfl hfit2 [] .nil (by simp only[Builtin.firstCells,Nat.zero_mul]; rfl) (by simp)
      | sliceZ y hz=>rw[hsp0] at hz; cases hz
theorem wS {E:TypeId} {t t' E' ty:TypeId} {a a':Option Addr} {l c l' c':Nat} {σ:Aa} {r:Ci × Aa} (ht:P.underlying t=some (.slice E)) (ht':P.underlying t'=some (.slice E'))
  (h:BH P E (a,l,c) (a',l',c') σ=some r):σ.length≤r.2.length ∧
   ∀ (μ:Mu) (w:World) (d x:Value),R P μ σ w→HT μ σ.length r.2.length→RV μ (.slice a l c) d→RV μ (.slice a' l' c') x →
    ∃ μ' v' w',(Builtin.append_ #[t,t'] ty #[d,x]).run P w = .ok v' w'∧RV μ' (.slice r.1.1 r.1.2.1 r.1.2.2) v'∧R P μ' r.2 w'∧Step μ σ w μ' r.2 w':=by
 obtain ⟨v,σ',hK,hlen,hmain⟩:=wR (ty:=ty) ht ht' h
 unfold slK at hK
 split at hK
 ·cases hK; exact ⟨hlen,hmain⟩
 ·cases hK
end Go.AX
end
