/-
 From what a call comes to, to a row that says: true, and all reads as it did.
-/
import Derived.ProofKit
import Derived.Carry
import Derived.Test.YtjbledomkmdkmaaGreatP22
set_option linter.unusedVariables false
set_option linter.unusedSectionVars false
namespace Go.AX
open Go Go.RowKit Go.ChangeShapes Go.WideShapes Go.ChangeAt
variable {P:Program}
theorem qv {μ μ':Mu} {σ σ':Aa} {w w':World} (h:Step μ σ w μ' σ' w') (hn:∀ b,b<σ.length→¬ Ay σ b):Below w.heap.size w w':=
 ⟨h.os,h.tape,h.output,h.size,fun k hk=>h.frame k hk fun b _ hb _ _=>hn b hb⟩
theorem fY {H:Type} {enc:TypeId × Value→H} (hl:laidOutB P=true) {W W':World} (hb:Below W.heap.size W W'):∀ {ts:List TypeId} {vs:List Value} {ds:List (DataW H)} {ps:List MemPlace},
  (ts.all fun t=>P.readableRec t && decide (t<P.types.size))=true→DataW.TrodAll enc P W 0 (fun _=>true) true ts vs ds ps→(∀ x ∈ ps,x.block<W.heap.size) →
  DataW.TrodAll enc P W' 0 (fun b=>decide (b<W.heap.size)) true ts vs ds ps
 | [],vs,ds,ps,_,h,_=>by
   obtain ⟨rfl,rfl,rfl⟩:=trodAll_nil h
   rfl
 | t::ts,vs,ds,ps,ht,h,hlt=>by
   simp only[List.all_cons,Bool.and_eq_true,decide_eq_true_eq] at ht
   obtain ⟨v,vs',d,ds',p,q,rfl,rfl,rfl,h1,h2⟩:=trodAll_cons h
   exact ⟨p,q,Below.trod hl ht.1.1 ht.1.2 h1 hb (fun x hx=>hlt x (by simp[hx])),fY hl hb ht.2 h2 (fun x hx=>hlt x (by simp[hx])),rfl⟩
theorem Abl {H:Type} {enc:TypeId × Value→H} {f:Func} {s:ChangeSpec} {apart:Bool} {W W':World} {args:Array Value} {v:Value} {ds gs:List (DataW H)} {before:List MemPlace}
  (hW:DataW.Whole enc P f.params.toList s.vars apart W args.toList ds gs before) (hl:laidOutB P=true) (hp:(f.params.toList.all fun t=>P.readableRec t && decide (t<P.types.size))=true)
  (hv:s.vars=[]) (hres:∀ (b:Nat) (sp:Nat→Bool) (hd:Bool),DataW.TrodAll enc P W' b sp hd f.resultTypes.toList (v.resultList f.resultTypes.size) (s.fn H (ds++gs)).results [])
  (hargs:(s.fn H (ds++gs)).args=ds) (hvars:(s.fn H (ds++gs)).vars=[]) (hb:Below W.heap.size W W'):
  s.post enc P f apart true false false W args v W':=by
 have hlt:=hW.lt
 have hW0:=hW
 obtain ⟨p,q,hA,hV,hpq,hrest⟩:=hW
 have hV':=hV
 rw[hv] at hV'
 obtain ⟨rfl,rfl⟩:=trodVars_none hV'
 refine ⟨ds,[],before,[],before,[],hW0,hres _ _ _, ?_, ?_,hb.frame _,fun h=>by cases h⟩
 ·rw[hargs]
  subst hpq
  rw[List.append_nil] at hlt ⊢
  exact fY hl hb hp hA hlt
 ·rw[hvars,hv]
  rfl
end Go.AX
