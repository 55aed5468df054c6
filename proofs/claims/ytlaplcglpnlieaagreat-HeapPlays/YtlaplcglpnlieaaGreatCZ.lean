/-
  Clone.
-/
import Derived.Test.YtlaplcglpnlieaaGreatCS
set_option linter.unusedVariables false
set_option linter.unusedSimpArgs false
namespace Go.Proofs.YtlaplcglpnlieaaGreat
open Go Go.AX
noncomputable local instance qCZ:Quiet:=fullQuiet
local instance nCZ:Kn:=⟨true⟩
variable {σ:AMem} {i:HIds} {m:HM}
theorem szB:szOf P ty_heap_block=some 2:=by kernel_rfl
theorem byB:bytesOf P ty_heap_block=some 16:=by kernel_rfl
theorem zzB:zerosOf P ty_heap_block=some (.agg #[.int .i64 0,.int .i64 0]):=by kernel_rfl
theorem szU:szOf P ty_uint64=some 1:=by kernel_rfl
theorem byU:bytesOf P ty_uint64=some 8:=by kernel_rfl
theorem zzU:zerosOf P ty_uint64=some (.int .u64 0):=by kernel_rfl
theorem eqB (a:Addr) (n c:Nat):eqA P sl_heap_block (.slice (some a) n c) (.slice none 0 0)=some false:=by kernel_rfl
theorem eqW (a:Addr) (n c:Nat):eqA P sl_int (.slice (some a) n c) (.slice none 0 0)=some false:=by kernel_rfl
theorem eqU (a:Addr) (n c:Nat):eqA P sl_uint64 (.slice (some a) n c) (.slice none 0 0)=some false:=by kernel_rfl
theorem append_new {E:TypeId} {s by_:Nat} {z:Value} (hs:szOf P E=some s) (hb:bytesOf P E=some by_) (hz:zerosOf P E=some z) (hz1:isTup z=false) (hz2:z.cells.size=s) (hs0:0<s) (hb0:0<by_) (hb1:by_≤1000)
    (σ:AMem) (p:Option Addr) (n c:Nat) (hn:0<n) (hn1:n≤100000) (row:List Value) (hf:firstA (σ++[.cells [] E true]) s p n=some row):
    appendD P E (some ⟨σ.length,0,some 0⟩,0,0) (p,n,c) (σ++[.cells [] E true])=some ((some ⟨σ.length+1,0,none⟩,n,n),σ++[AObj.cells [] E true,.cells row E true]):=by
  unfold appendD appendA
  have h1:(¬ (isTup z=false∧some s=some z.cells.size∧0<z.cells.size))=False:=by
    rw[hz1,hz2]; simp[hs0]
  have r:roomOk (0+n) by_∧0<by_:=by
    unfold roomOk
    have:(0+n)*by_≤100000*1000:=Nat.mul_le_mul (by omega) hb1
    refine ⟨⟨by omega,by omega⟩,hb0⟩
  have e1:elemAt (σ++[.cells [] E true]) σ.length=some E:=by simp[elemAt]
  have e2:ldN (σ++[.cells [] E true]) σ.length 0 (0*s)=some []:=by simp[ldN]
  have e3:writableB (σ++[.cells [] E true]) σ.length=true:=by simp[writableB]
  simp only[hs,hb,hz,hf,Option.bind_some,h1,if_false,show ¬ (0+n≤0) from by omega,r,and_self,if_true,fixedB,Option.isSome_some,cond_true,slK]
  simp
theorem cloneB_to (k:Nat) (h:HeapAt σ i m):d_slices_Clone_heap_block (k+1) (some ⟨i.bl,0,none⟩,m.bls.length,m.bls.length) σ=some (.slice (some ⟨σ.length+1,0,none⟩) m.bls.length m.bls.length,σ++[AObj.cells [] ty_heap_block true,.cells (blRow m.bls) ty_heap_block true]):=by
  have ht:=h.nt
  have hn:=h.nb
  rw[d_slices_Clone_heap_block_eq,b_slices_Clone_heap_block]
  have h1:=h.app [AObj.cells [] ty_heap_block true]
  have e:=append_new szB byB zzB rfl rfl (by decide) (by decide) (by decide) σ (some ⟨i.bl,0,none⟩) m.bls.length m.bls.length (by omega) (by omega) (blRow m.bls) (by
    simp only[firstA,ldN,h1.bl,blRow_length,Nat.zero_add,Nat.mul_comm 2,Nat.le_refl,if_true,List.drop_zero]
    rw[List.take_of_length_le (by rw[blRow_length]; omega)])
  simp only[eqB,Option.bind_some,cond_false,allocK,e]
theorem cloneW_to (k:Nat) (h:HeapAt σ i m):d_slices_Clone_int (k+1) (some ⟨i.wd,0,none⟩,m.wds.length,m.wds.length) σ=some (.slice (some ⟨σ.length+1,0,none⟩) m.wds.length m.wds.length,σ++[AObj.cells [] ty_int true,.cells (inRow m.wds) ty_int true]):=by
  have ht:=h.nt
  have hn:=h.nb
  have hw:=h.wl
  rw[d_slices_Clone_int_eq,b_slices_Clone_int]
  have h1:=h.app [AObj.cells [] ty_int true]
  have e:=append_new sz3 by3 zz3 rfl rfl (by decide) (by decide) (by decide) σ (some ⟨i.wd,0,none⟩) m.wds.length m.wds.length (by omega) (by omega) (inRow m.wds) (by
    simp only[firstA,ldN,h1.wd,inRow_length,Nat.zero_add,Nat.mul_one,Nat.le_refl,if_true,List.drop_zero]
    rw[List.take_of_length_le (by rw[inRow_length]; omega)])
  simp only[eqW,Option.bind_some,cond_false,allocK,e]
theorem cloneU_to (k:Nat) {tb wb e w:Nat} {ws:List (BitVec 64)} (h:TabAt σ tb wb e w ws):d_slices_Clone_uint64 (k+1) (some ⟨wb,0,none⟩,ws.length,ws.length) σ=some (.slice (some ⟨σ.length+1,0,none⟩) ws.length ws.length,σ++[AObj.cells [] ty_uint64 true,.cells (rowOf ws) ty_uint64 true]):=by
  have hl:=h.len
  have hp:=h.pos
  have ht:=h.top
  have hwl:0<ws.length∧ws.length≤100000:=by
    rw[hl]
    rcases h.okw with rfl | rfl | rfl | rfl <;> omega
  rw[d_slices_Clone_uint64_eq,b_slices_Clone_uint64]
  have h1:=h.app [AObj.cells [] ty_uint64 true]
  have hrl:(rowOf ws).length=ws.length:=by simp[rowOf]
  have e:=append_new szU byU zzU rfl rfl (by decide) (by decide) (by decide) σ (some ⟨wb,0,none⟩) ws.length ws.length hwl.1 hwl.2 (rowOf ws) (by
    simp only[firstA,ldN,h1.row,hrl,Nat.zero_add,Nat.mul_one,Nat.le_refl,if_true,List.drop_zero]
    rw[List.take_of_length_le (by rw[hrl]; omega)])
  simp only[eqU,Option.bind_some,cond_false,allocK,e]
theorem quiet_app (σ τ:AMem) {ρ:Type} (x:Option ρ):quietly σ (σ++τ) x=x:=quietly_full σ τ x
theorem cloneT_to (k:Nat) {tb wb e w:Nat} {ws:List (BitVec 64)} (h:TabAt σ tb wb e w ws):
    ∃ τ,d_side_Table_Clone (k+2) (some ⟨tb,0,none⟩) σ=some (.pointer (some ⟨σ.length+2,0,none⟩),σ++τ)∧τ.length=3∧TabAt (σ++τ) (σ.length+2) (σ.length+1) e w ws:=by
  refine ⟨[AObj.cells [] ty_uint64 true,.cells (rowOf ws) ty_uint64 true,.cells [.int .i64 (e:Int),.int .i64 (w:Int),.slice (some ⟨σ.length+1,0,none⟩) ws.length ws.length] ty_side_Table true], ?_,rfl, ?_, ?_,h.len,h.pos,h.top,h.okw⟩
  · rw[d_side_Table_Clone_eq,b_side_Table_Clone]
    simp only[made_to _ h,Option.bind_some,toB_bool,Bool.not_true,cond_false,Nat.zero_add,Nat.add_zero,h.ldE,h.ldW,h.ldR,cloneU_to _ h,quiet_app,toS,allocK]
    simp
  · rw[List.getElem?_append_right (by omega),show σ.length+2-σ.length=2 from by omega]; rfl
  · rw[List.getElem?_append_right (by omega),show σ.length+1-σ.length=1 from by omega]; rfl
theorem cloneM_to (k:Nat) {r:Nat} {es:List (Int × Value)} (h:σ[r]?=some (.map es)):d_maps_Clone_int (k+1) (some r) σ=some (.map (some σ.length),σ++[.map es]):=by
  rw[d_maps_Clone_int_eq]
  simp[cloneA,ldMap,h]
theorem Clone_to (k:Nat) (h:HeapAt σ i m):∃ τ i',d_heap_Heap_Clone (k+3) (hptr i) σ=some (.pointer (hptr i'),σ++τ)∧HeapAt (σ++τ) i' m ∧ ∀ j ∈ i'.l,σ.length≤j:=by
  rw[d_heap_Heap_Clone_eq,b_heap_Heap_Clone]
  have e1:=cloneB_to (k+1) h
  obtain ⟨τ1,hτ1⟩:∃ τ1,[AObj.cells [] ty_heap_block true,.cells (blRow m.bls) ty_heap_block true]=τ1:=⟨_,rfl⟩
  rw[hτ1] at e1
  obtain ⟨σ1,hσ1⟩:∃ σ1,σ++τ1=σ1:=⟨_,rfl⟩
  have h1:HeapAt σ1 i m:=hσ1 ▸ h.app τ1
  have l1:σ1.length=σ.length+2:=by rw[← hσ1,← hτ1]; simp
  have e2:=cloneW_to (k+1) h1
  obtain ⟨τ2,hτ2⟩:∃ τ2,[AObj.cells [] ty_int true,.cells (inRow m.wds) ty_int true]=τ2:=⟨_,rfl⟩
  rw[hτ2] at e2
  obtain ⟨σ2,hσ2⟩:∃ σ2,σ1++τ2=σ2:=⟨_,rfl⟩
  have h2:HeapAt σ2 i m:=hσ2 ▸ h1.app τ2
  have l2:σ2.length=σ1.length+2:=by rw[← hσ2,← hτ2]; simp
  obtain ⟨τ3,e3,lt3,t3⟩:=cloneT_to k h2.st
  obtain ⟨σ3,hσ3⟩:∃ σ3,σ2++τ3=σ3:=⟨_,rfl⟩
  have h3:HeapAt σ3 i m:=hσ3 ▸ h2.app τ3
  have l3:σ3.length=σ2.length+3:=by rw[← hσ3]; simp[lt3]
  rw[hσ3] at t3
  obtain ⟨τ4,e4,lt4,t4⟩:=cloneT_to k h3.pn
  obtain ⟨σ4,hσ4⟩:∃ σ4,σ3++τ4=σ4:=⟨_,rfl⟩
  have h4:HeapAt σ4 i m:=hσ4 ▸ h3.app τ4
  have l4:σ4.length=σ3.length+3:=by rw[← hσ4]; simp[lt4]
  rw[hσ4] at t4
  have e5:=cloneM_to (k+1) h4.pl
  obtain ⟨σ5,hσ5⟩:∃ σ5,σ4++[.map (mpRow m.pl)]=σ5:=⟨_,rfl⟩
  have h5:HeapAt σ5 i m:=hσ5 ▸ h4.app _
  have l5:σ5.length=σ4.length+1:=by rw[← hσ5]; simp
  have e6:=cloneM_to (k+1) h5.fw
  obtain ⟨σ6,hσ6⟩:∃ σ6,σ5++[.map (mpRow m.fw)]=σ6:=⟨_,rfl⟩
  have h6:HeapAt σ6 i m:=hσ6 ▸ h5.app _
  have l6:σ6.length=σ5.length+1:=by rw[← hσ6]; simp
  obtain ⟨hc,hhc⟩:∃ hc,AObj.cells [.slice (some ⟨σ.length+1,0,none⟩) m.bls.length m.bls.length,.slice (some ⟨σ1.length+1,0,none⟩) m.wds.length m.wds.length,.pointer (some ⟨σ2.length+2,0,none⟩),.pointer (some ⟨σ3.length+2,0,none⟩),.map (some σ4.length),.map (some σ5.length),.int .i64 m.births] ty_heap_Heap true=hc:=⟨_,rfl⟩
  have run:∃ τ,σ6++[hc]=σ++τ:=⟨τ1++τ2++τ3++τ4++[.map (mpRow m.pl)]++[.map (mpRow m.fw)]++[hc],by rw[← hσ6,← hσ5,← hσ4,← hσ3,← hσ2,← hσ1]; simp⟩
  obtain ⟨τ,hτ⟩:=run
  have q1:∀ {ρ:Type} (x:Option ρ),quietly σ σ1 x=x:=fun x=>by rw[← hσ1]; exact quiet_app _ _ x
  have q2:∀ {ρ:Type} (x:Option ρ),quietly σ1 σ2 x=x:=fun x=>by rw[← hσ2]; exact quiet_app _ _ x
  have q3:∀ {ρ:Type} (x:Option ρ),quietly σ2 σ3 x=x:=fun x=>by rw[← hσ3]; exact quiet_app _ _ x
  have q4:∀ {ρ:Type} (x:Option ρ),quietly σ3 σ4 x=x:=fun x=>by rw[← hσ4]; exact quiet_app _ _ x
  have q5:∀ {ρ:Type} (x:Option ρ),quietly σ4 σ5 x=x:=fun x=>by rw[← hσ5]; exact quiet_app _ _ x
  have q6:∀ {ρ:Type} (x:Option ρ),quietly σ5 σ6 x=x:=fun x=>by rw[← hσ6]; exact quiet_app _ _ x
  rw[hσ1] at e1
  rw[hσ2] at e2
  rw[hσ3] at e3
  rw[hσ4] at e4
  rw[hσ5] at e5
  rw[hσ6] at e6
  refine ⟨τ,⟨σ6.length,σ.length+1,σ1.length+1,σ2.length+2,σ2.length+1,σ3.length+2,σ3.length+1,σ4.length,σ5.length⟩, ?_, ?_, ?_⟩
  · simp only[hmade_to _ h,Option.bind_some,toB_bool,Bool.not_true,cond_false,Nat.zero_add,Nat.add_zero,h.ld0,e1,q1,toS,h1.ld1',e2,q2,h2.ld2,e3,q3,toP,h3.ld3,e4,q4,h4.ld4,e5,q5,toM,h5.ld5,e6,q6,h6.ld6,allocK]
    rw[hhc,hτ]
  · rw[← hτ]
    have p1:∀ q o,σ1[q]?=some o→(σ6++[hc])[q]?=some o:=fun q o ho=>by
      rw[← hσ6,← hσ5,← hσ4,← hσ3,← hσ2]
      have:=getElem?_lt ho
      rw[List.getElem?_append_left (by simp; omega),List.getElem?_append_left (by simp; omega),List.getElem?_append_left (by simp; omega),List.getElem?_append_left (by simp; omega),List.getElem?_append_left (by simp; omega),List.getElem?_append_left this]; exact ho
    have p2:∀ q o,σ2[q]?=some o→(σ6++[hc])[q]?=some o:=fun q o ho=>by
      rw[← hσ6,← hσ5,← hσ4,← hσ3]
      have:=getElem?_lt ho
      rw[List.getElem?_append_left (by simp; omega),List.getElem?_append_left (by simp; omega),List.getElem?_append_left (by simp; omega),List.getElem?_append_left (by simp; omega),List.getElem?_append_left this]; exact ho
    have p3:∀ q o,σ3[q]?=some o→(σ6++[hc])[q]?=some o:=fun q o ho=>by
      rw[← hσ6,← hσ5,← hσ4]
      have:=getElem?_lt ho
      rw[List.getElem?_append_left (by simp; omega),List.getElem?_append_left (by simp; omega),List.getElem?_append_left (by simp; omega),List.getElem?_append_left this]; exact ho
    have p4:∀ q o,σ4[q]?=some o→(σ6++[hc])[q]?=some o:=fun q o ho=>by
      rw[← hσ6,← hσ5]
      have:=getElem?_lt ho
      rw[List.getElem?_append_left (by simp; omega),List.getElem?_append_left (by simp; omega),List.getElem?_append_left this]; exact ho
    refine ⟨by rw[← hhc]; simp,p1 _ _ (by rw[← hσ1,← hτ1]; simp),p2 _ _ (by rw[← hσ2,← hτ2]; simp),⟨p3 _ _ t3.tab,p3 _ _ t3.row,t3.len,t3.pos,t3.top,t3.okw⟩,⟨p4 _ _ t4.tab,p4 _ _ t4.row,t4.len,t4.pos,t4.top,t4.okw⟩, ?_, ?_,h.nb,h.nt,h.wl, ?_,h.wi⟩
    · rw[← hσ6,← hσ5]; simp
    · rw[← hσ6]; simp
    · simp only[HIds.l,List.nodup_cons,List.mem_cons,List.not_mem_nil,or_false,not_or,List.nodup_nil,and_true,not_false_eq_true]
      omega
  · intro j hj
    simp only[HIds.l,List.mem_cons,List.not_mem_nil,or_false] at hj
    omega
end Go.Proofs.YtlaplcglpnlieaaGreat
