/-
  Looks at a heap: Blocks, State, Space, Shape, Ref, Data, Pinned, Forward; slices that grow.
-/
import Derived.Test.YtlaplcglpnlieaaGreatCG
set_option linter.unusedVariables false
set_option linter.unusedSimpArgs false
namespace Go.Proofs.YtlaplcglpnlieaaGreat
open Go Go.AX
noncomputable local instance qCS:Quiet:=fullQuiet
local instance nCS:Kn:=⟨true⟩
variable {σ:AMem} {i:HIds} {m:HM}
theorem Blocks_to (k:Nat) (h:HeapAt σ i m):d_heap_Heap_Blocks (k+2) (hptr i) σ=some (.int .i64 ((m.bls.length:Nat):Int),σ):=by
  rw[d_heap_Heap_Blocks_eq,b_heap_Heap_Blocks,hmade_to _ h]
  simp only[Option.bind_some,toB_bool,Bool.not_true,cond_false,Nat.zero_add,Nat.add_zero,h.ld0]
theorem State_to (k:Nat) (h:HeapAt σ i m) {b:Nat} (hb:b<m.bls.length):d_heap_Heap_State (k+3) (hptr i) (b:Int) σ=some (.int .i64 (m.bls.getD b (0,0)).1,σ):=by
  rw[d_heap_Heap_State_eq,b_heap_Heap_State]
  have q1:decide ((b:Int)<0)=false:=decide_eq_false (by omega)
  have q2:decide ((b:Int)≥((m.bls.length:Nat):Int))=false:=decide_eq_false (by omega)
  simp only[q1,cond_false,Blocks_to _ h,Option.bind_some,toI_int,q2,Nat.zero_add,Nat.add_zero,h.ld0]
  rw[if_pos (by omega)]
  simp only[Option.bind_some,Int.toNat_natCast,Nat.zero_add,(h.ldB hb).1]
theorem Space_to (k:Nat) (h:HeapAt σ i m) {b:Nat} (hb:b<m.bls.length):d_heap_Heap_Space (k+3) (hptr i) (b:Int) σ=some (.int .i64 (m.bls.getD b (0,0)).2,σ):=by
  rw[d_heap_Heap_Space_eq,b_heap_Heap_Space]
  have q1:decide ((b:Int)<0)=false:=decide_eq_false (by omega)
  have q2:decide ((b:Int)≥((m.bls.length:Nat):Int))=false:=decide_eq_false (by omega)
  simp only[q1,cond_false,Blocks_to _ h,Option.bind_some,toI_int,q2,Nat.zero_add,Nat.add_zero,h.ld0]
  rw[if_pos (by omega)]
  simp only[Option.bind_some,Int.toNat_natCast,Nat.zero_add,(h.ldB hb).2]
def fwdM (m:HM) (a:Int):Int:=(getM m.fw a).getD 0
theorem Forward_to (k:Nat) (h:HeapAt σ i m) (a:Int):d_heap_Heap_Forward (k+2) (hptr i) a σ=some (.tuple #[.int .i64 (fwdM m a),.int .i64 (if (getM m.fw a).isSome then 0 else 4)],σ):=by
  rw[d_heap_Heap_Forward_eq,b_heap_Heap_Forward]
  simp only[hmade_to _ h,Option.bind_some,toB_bool,Bool.not_true,cond_false,Nat.zero_add,h.ld5,ldMO,ldMap,h.fw,mapGet_mp]
  unfold fwdM
  cases getM m.fw a with
  | none=>rfl
  | some t=>rfl
def pinM (m:HM) (a:Int):Bool:=hasM m a && decide (tget 1 m.pnw (a.toNat/2)=1)
theorem Pinned_to (k:Nat) (h:HeapAt σ i m) (a:Int) (ha:inI a):d_heap_Heap_Pinned (k+5) (hptr i) a σ=some (.bool (pinM m a),σ):=by
  have ht:=h.nt
  rw[d_heap_Heap_Pinned_eq,b_heap_Heap_Pinned,Has_to _ h a ha]
  simp only[Option.bind_some,toB_bool]
  unfold pinM
  cases hh:hasM m a with
  | false=>simp only[cond_false,Option.bind_some,Bool.false_and]
  | true=>
    obtain ⟨j,rfl,hs⟩:=hasM_spec hh
    have hj:=hs.1
    have t1:((2*j:Nat):Int).tdiv 2=(j:Int):=by
      rw[show ((2*j:Nat):Int).tdiv 2=(((2*j)/2:Nat):Int) from rfl]; omega
    have e1:w64 (j:Int)=(j:Int):=w64_in (by unfold inI; omega)
    have hG:d_side_Table_Get (k+4) (some ⟨i.pn,0,none⟩) (j:Int) σ=some (.int .i64 (tget 1 m.pnw j:Int),σ):=by
      have:=Get_to (k+1) h.pn (j:Int)
      rw[if_pos (by omega),Int.toNat_natCast] at this
      exact this
    have hb:(((tget 1 m.pnw j:Nat):Int) == 1)=decide (tget 1 m.pnw j=1):=by
      by_cases hq:tget 1 m.pnw j=1
      · simp[hq]
      · have:¬ ((tget 1 m.pnw j:Nat):Int)=1:=by omega
        simp[hq,this]
    simp only[cond_true,Nat.zero_add,h.ld3,Option.bind_some,show ((2:Int)=0)=False from by simp,if_false,t1,e1,hG,toI_int,Bool.true_and,show ((2*j:Nat):Int).toNat/2=j from by omega,hb]
def kindAt (m:HM) (j:Nat):Int:=(m.wds.getD (2*j+1) 0).tdiv 4096
theorem Shape_to (k:Nat) (h:HeapAt σ i m) {j:Nat} (hs:Start m j):∃ τ,d_heap_Heap_Shape (k+6) (hptr i) ((2*j:Nat):Int) σ=some (.tuple #[.agg #[.int .i64 (refsAt m j),.int .i64 (dataAt m j),.int .i64 (kindAt m j)],.int .i64 0],σ++τ):=by
  have hw:=h.wl
  have ht:=h.nt
  have hj:=hs.1
  rw[d_heap_Heap_Shape_eq,b_heap_Heap_Shape]
  simp only[allocK]
  have h1:=h.app [AObj.cells [Value.int .i64 0,.int .i64 0,.int .i64 0] ty_api_Shape true]
  obtain ⟨τ,hsh⟩:=shape_to (k+4) (m.wds.getD (2*j+1) 0) (h.wi _) (σ++[AObj.cells [Value.int .i64 0,.int .i64 0,.int .i64 0] ty_api_Shape true])
  have e1:w64 (((2*j:Nat):Int)+1)=((2*j+1:Nat):Int):=w64_in (by unfold inI; omega)
  simp only[object_to _ h1 _ (show inI ((2*j:Nat):Int) by unfold inI; omega),hasM_of hs,if_true,Option.bind_some,toI_int,bne_self_eq_false,cond_false,Nat.zero_add,h1.ld1',e1,Int.toNat_natCast,Nat.mul_one]
  rw[if_pos (by omega)]
  simp only[h1.ldW (show 2*j+1<m.wds.length by omega),Option.bind_some,hsh,a_iii_eq]
  rw[show ((m.wds.getD (2*j+1) 0).tmod 4096).tdiv 16=dataAt m j from rfl,show (m.wds.getD (2*j+1) 0).tmod 16=refsAt m j from rfl,show (m.wds.getD (2*j+1) 0).tdiv 4096=kindAt m j from rfl]
  refine ⟨[AObj.cells [.int .i64 (refsAt m j),.int .i64 (dataAt m j),.int .i64 (kindAt m j)] ty_api_Shape true]++τ, ?_⟩
  have e2:∀ x y z u v w:Value,stN (σ++[AObj.cells [x,y,z] ty_api_Shape true]++τ) σ.length 0 [u,v,w]=some (σ++[AObj.cells [u,v,w] ty_api_Shape true]++τ):=by
    intro x y z u v w; simp[stN,setRange]
  have e3:∀ u v w:Value,ldN (σ++[AObj.cells [u,v,w] ty_api_Shape true]++τ) σ.length 0 3=some [u,v,w]:=by
    intro u v w; simp[ldN]
  rw[← List.append_assoc]
  simp only[e2,Option.bind_some,e3,resOf]
theorem fieldM_ref (h:Inv m) {j x:Nat} (hs:Start m j) (hx:(x:Int)<refsAt m j):fieldM m ((2*j:Nat):Int) (x:Int) false=(((2*j+2+x:Nat):Int),0):=by
  unfold fieldM
  rw[hasM_of hs]
  simp only[if_true,show ((2*j:Nat):Int).toNat/2=j from by omega,Bool.false_eq_true,if_false]
  rw[if_pos (by omega)]
  congr 1
theorem fieldM_data (h:Inv m) {j x:Nat} (hs:Start m j) (hx:(x:Int)<dataAt m j):fieldM m ((2*j:Nat):Int) (x:Int) true=(((2*j+2+(refsAt m j).toNat+x:Nat):Int),0):=by
  have:=h.size hs
  unfold fieldM
  rw[hasM_of hs]
  simp only[if_true,show ((2*j:Nat):Int).toNat/2=j from by omega]
  rw[if_pos (by omega)]
  congr 1
  omega
theorem Ref_to (k:Nat) (h:HeapAt σ i m) (hI:Inv m) {j x:Nat} (hs:Start m j) (hx:(x:Int)<refsAt m j):∃ τ,d_heap_Heap_Ref (k+7) (hptr i) ((2*j:Nat):Int) (x:Int) σ=some (.tuple #[.int .i64 (m.wds.getD (2*j+2+x) 0),.int .i64 0],σ++τ):=by
  have hw:=h.wl
  have ht:=h.nt
  have hj:=hs.1
  have hf:=hI.fit j hs
  have hz:=hI.size hs
  obtain ⟨τ,e⟩:=field_to k h hI ((2*j:Nat):Int) (x:Int) (by unfold inI; omega) false
  rw[fieldM_ref hI hs hx] at e
  refine ⟨τ, ?_⟩
  rw[d_heap_Heap_Ref_eq,b_heap_Heap_Ref]
  simp only[e,Option.bind_some,r_ii_eq,bne_self_eq_false,cond_false,Nat.zero_add,(h.app τ).ld1']
  rw[if_pos (by omega)]
  simp only[Int.toNat_natCast,Nat.mul_one,Option.bind_some,Nat.zero_add,(h.app τ).ldW (show 2*j+2+x<m.wds.length by omega)]
theorem Data_to (k:Nat) (h:HeapAt σ i m) (hI:Inv m) {j x:Nat} (hs:Start m j) (hx:(x:Int)<dataAt m j):∃ τ,d_heap_Heap_Data (k+7) (hptr i) ((2*j:Nat):Int) (x:Int) σ=some (.tuple #[.int .i64 (m.wds.getD (2*j+2+(refsAt m j).toNat+x) 0),.int .i64 0],σ++τ):=by
  have hw:=h.wl
  have ht:=h.nt
  have hj:=hs.1
  have hf:=hI.fit j hs
  have hz:=hI.size hs
  obtain ⟨τ,e⟩:=field_to k h hI ((2*j:Nat):Int) (x:Int) (by unfold inI; omega) true
  rw[fieldM_data hI hs hx] at e
  refine ⟨τ, ?_⟩
  rw[d_heap_Heap_Data_eq,b_heap_Heap_Data]
  simp only[e,Option.bind_some,r_ii_eq,bne_self_eq_false,cond_false,Nat.zero_add,(h.app τ).ld1']
  rw[if_pos (by omega)]
  simp only[Int.toNat_natCast,Nat.mul_one,Option.bind_some,Nat.zero_add,(h.app τ).ldW (show 2*j+2+(refsAt m j).toNat+x<m.wds.length by omega)]
theorem size_sum (l:List Nat):(l.map fun j=>sz m j).sum≤218*l.length:=by
  induction l with
  | nil=>simp
  | cons j l ih=>
    have:=szN_le (m.wds.getD (2*j+1) 0)
    simp only[List.map_cons,List.sum_cons,List.length_cons]
    unfold sz at ih ⊢; omega
theorem Used_l0_to (k lo:Nat) (L:List Nat) (hL:∀ j ∈ L,Start m j) (hl:L.length≤5000) (s:SlV):∀ (n x f acc:Nat) (σ:AMem),HeapAt σ i m→IntsAt lo σ s (addrs L)→x+n=L.length→acc≤218*x→n<f →
    ∃ τ,d_heap_Heap_Used_l0 (k+3) f (hptr i) s.1 s.2.1 s.2.2 (L.length:Int) (acc:Int) (x:Int) σ=some (.exit 0,[.int .i64 (((acc+((L.drop x).map fun j=>sz m j).sum:Nat)):Int)],σ++τ)
  | 0,x,0,acc,σ,h,hs,hx,ha,hf=>by omega
  | 0,x,f+1,acc,σ,h,hs,hx,ha,hf=>by
    rw[d_heap_Heap_Used_l0_eq,b_heap_Heap_Used_l0]
    have q:decide ((x:Int)<(L.length:Int))=false:=decide_eq_false (by omega)
    refine ⟨[], ?_⟩
    rw[List.drop_eq_nil_of_le (by omega)]
    simp only[q,cond_false,List.append_nil,List.map_nil,List.sum_nil,Nat.add_zero]
  | n+1,x,0,acc,σ,h,hs,hx,ha,hf=>by omega
  | n+1,x,f+1,acc,σ,h,hs,hx,ha,hf=>by
    have hxl:x<L.length:=by omega
    have hst:=hL _ (List.getElem_mem hxl)
    have hlen:=hs.len
    have al:(addrs L).length=L.length:=by simp[addrs]
    have hz:=szN_le (m.wds.getD (2*L[x]+1) 0)
    obtain ⟨τ,e⟩:=size_to k h hst.1
    obtain ⟨τ',e'⟩:=Used_l0_to k lo L hL hl s n (x+1) f (acc+sz m L[x]) (σ++τ) (h.app τ) (hs.app τ) (by omega) (by unfold sz; omega) (by omega)
    refine ⟨τ++τ', ?_⟩
    rw[List.drop_eq_getElem_cons hxl,List.map_cons,List.sum_cons,← Nat.add_assoc,← List.append_assoc,← e']
    rcases hs with ⟨he,_⟩ | ⟨b,hb1,rfl,hb2,hb3⟩
    · rw[he] at al; simp at al; omega
    rw[d_heap_Heap_Used_l0_eq,b_heap_Heap_Used_l0]
    have q:decide ((x:Int)<(L.length:Int))=true:=decide_eq_true (by omega)
    have w1:w64 ((x:Int)+1)=((x+1:Nat):Int):=w64_in (by unfold inI; omega)
    have w2:w64 ((acc:Int)+(sz m L[x]:Int))=((acc+sz m L[x]:Nat):Int):=w64_in (by unfold inI sz; omega)
    have ldx:ldI .i64 σ b x=some ((2*L[x]:Nat):Int):=by
      have hh:IntsAt lo σ (some ⟨b,0,none⟩,(addrs L).length,(addrs L).length) (addrs L):=.inr ⟨b,hb1,rfl,hb2,hb3⟩
      rw[hh.ld (by omega),addrs_getD L hxl]
    simp only[q,cond_true]
    rw[if_pos (by omega)]
    simp only[Option.bind_some,Nat.zero_add,Int.toNat_natCast,Nat.mul_one,ldx,e,toI_int,w1,w2]
def usedN (m:HM):Nat:=((starts m 0 (32*m.bls.length)).map fun j=>sz m j).sum
theorem starts_len (m:HM) (lo n:Nat):(starts m lo n).length≤n:=by
  have:(starts m lo n).length≤(List.range' lo n).length:=List.length_filter_le _ _
  simpa using this
theorem Used_to (k:Nat) (hk:5000≤k) (h:HeapAt σ i m):∃ τ,d_heap_Heap_Used (k+7) (hptr i) σ=some (.int .i64 (usedN m:Int),σ++τ):=by
  have ht:=h.nt
  obtain ⟨τ,s,e,hs⟩:=All_to k hk h
  have hl:=starts_len m 0 (32*m.bls.length)
  obtain ⟨τ',e'⟩:=Used_l0_to (k+3) σ.length (starts m 0 (32*m.bls.length)) (fun j hj=>mem_all.1 hj) (by omega) s (starts m 0 (32*m.bls.length)).length 0 (k+6) 0 (σ++τ) (h.app τ) hs (by omega) (by omega) (by omega)
  have hlen:=hs.len
  have al:(addrs (starts m 0 (32*m.bls.length))).length=(starts m 0 (32*m.bls.length)).length:=by simp[addrs]
  rw[al] at hlen
  refine ⟨τ++τ', ?_⟩
  rw[d_heap_Heap_Used_eq,b_heap_Heap_Used]
  have e0:d_heap_Heap_Used_l0 (k+6) (k+6) (hptr i) s.1 s.2.1 s.2.2 ((starts m 0 (32*m.bls.length)).length:Int) 0 0 (σ++τ)=_:=e'
  simp only[e,Option.bind_some,toS,hlen] at e0 ⊢
  rw[← hlen] at e0 ⊢
  rw[e0]
  simp only[Option.bind_some,if_true,u_i_eq,List.drop_zero,Nat.zero_add,List.append_assoc]
  rfl
structure Grows (σ:AMem) (s:SlV) (σ':AMem) (s':SlV):Prop where
  len:σ.length≤σ'.length
  same:∀ q,q<σ.length→(∀ a,s.1=some a→a.block≠q)→σ'[q]?=σ[q]?
  new:s'=s ∨ ∀ a,s'.1=some a→σ.length≤a.block
theorem Grows.refl (σ:AMem) (s:SlV):Grows σ s σ s:=⟨Nat.le_refl _,fun _ _ _=>rfl,.inl rfl⟩
theorem Grows.app (σ:AMem) (s:SlV) (τ:AMem):Grows σ s (σ++τ) s:=⟨by simp,fun q hq _=>List.getElem?_append_left hq,.inl rfl⟩
theorem Grows.trans {a b c:AMem} {s t u:SlV} (h:Grows a s b t) (g:Grows b t c u):Grows a s c u:=by
  refine ⟨Nat.le_trans h.len g.len,fun q hq hn=>?_, ?_⟩
  · refine (g.same q (Nat.lt_of_lt_of_le hq h.len) fun x hx=>?_).trans (h.same q hq hn)
    rcases h.new with rfl | hw
    · exact hn x hx
    · have:=hw x hx; omega
  · rcases g.new with rfl | hw
    · exact h.new
    · exact .inr fun x hx=>Nat.le_trans h.len (hw x hx)
def Off (i:HIds) (s:SlV):Prop:=∀ a,s.1=some a→a.block ∉ i.l
theorem Grows.heap {σ':AMem} {s s':SlV} (g:Grows σ s σ' s') (h:HeapAt σ i m) (ho:Off i s):HeapAt σ' i m∧Off i s':=by
  refine ⟨h.like fun j hj=>g.same j (h.lt j hj) fun a ha e=>ho a ha (e ▸ hj), ?_⟩
  rcases g.new with rfl | hw
  · exact ho
  · intro a ha hm
    have:=hw a ha
    have:=h.lt _ hm
    omega
theorem Grows.other {σ':AMem} {s s':SlV} (g:Grows σ s σ' s') {q:Nat} {o:AObj} (h:σ[q]?=some o) (hs:∀ a,s.1=some a→a.block≠q):σ'[q]?=some o ∧ ∀ a,s'.1=some a→a.block≠q:=by
  have hq:=getElem?_lt h
  refine ⟨(g.same q hq hs).trans h, ?_⟩
  rcases g.new with rfl | hw
  · exact hs
  · intro a ha e
    have:=hw a ha
    omega
theorem IntsAt.lo0 {lo:Nat} {s:SlV} {l:List Int} (h:IntsAt lo σ s l):IntsAt 0 σ s l:=by
  rcases h with h | ⟨b,_,h⟩
  · exact .inl h
  · exact .inr ⟨b,Nat.zero_le _,h⟩
theorem append_grows (σ:AMem) (s:SlV) (l l':List Int) (src:Option Addr) (c:Nat) (hl:l.length+l'.length≤1000000) (hs:IntsAt 0 σ s l) (hne:l'≠[]) (hx:firstA σ 1 src l'.length=some (inRow l')):
    ∃ s' σ',appendD P ty_int s (src,l'.length,c) σ=some (s',σ')∧Grows σ s σ' s'∧IntsAt 0 σ' s' (l++l'):=by
  have hp:0<l'.length:=List.length_pos_iff.2 hne
  unfold appendD appendA
  simp only[sz3,by3,zz3,Option.bind_some,hx]
  have hz:(¬ (isTup (.int .i64 0)=false∧some 1=some (Value.cells (.int .i64 0)).size∧0<(Value.cells (.int .i64 0)).size))=False:=by simp[isTup,Value.cells]
  simp only[hz,if_false]
  rcases hs with ⟨rfl,rfl⟩ | ⟨b,hb,rfl,hne',hcell⟩
  · have r:roomOk (0+l'.length) 8∧0<8:=by
      unfold roomOk
      refine ⟨⟨?_, ?_⟩,by decide⟩ <;> simp at hl <;> omega
    simp only[show ¬ (0+l'.length≤0) from by omega,if_false,r,and_self,if_true,fixedB,cond_true,slK]
    refine ⟨_,_,rfl,⟨by simp,fun q hq _=>List.getElem?_append_left hq,.inr fun a ha=>by cases ha; exact Nat.le_refl _⟩,.inr ⟨σ.length,Nat.zero_le _,by simp,by simpa using hne,by simp⟩⟩
  · have r:roomOk (l.length+l'.length) 8∧0<8:=by
      unfold roomOk
      refine ⟨⟨?_, ?_⟩,by decide⟩ <;> omega
    have hb2:=getElem?_lt hcell
    have e1:elemAt σ b=some ty_int:=by simp[elemAt,hcell]
    have e2:ldN σ b 0 (l.length*1)=some (inRow l):=by
      simp only[ldN,hcell,inRow_length,Nat.mul_one,Nat.zero_add,Nat.le_refl,if_true,List.drop_zero]
      rw[List.take_of_length_le (by rw[inRow_length]; exact Nat.le_refl _)]
    have e3:writableB σ b=true:=by simp[writableB,hcell]
    simp only[show ¬ (l.length+l'.length≤l.length) from by omega,if_false,r,and_self,if_true,fixedB,Option.isSome_none,cond_false,Option.bind_some,e1,e2,e3,cond_true,slK]
    refine ⟨_,_,rfl,⟨by simp,fun q hq hn=>?_,.inr fun a ha=>?_⟩,.inr ⟨σ.length,Nat.zero_le _,by simp,by simp[hne], ?_⟩⟩
    · rw[List.getElem?_append_left (by simpa using hq),List.getElem?_set_ne (hn _ rfl)]
    · cases ha; exact Nat.le_refl _
    · rw[inRow_append]
      simp
def segL (m:HM) (a n:Nat):List Int:=(List.range' a n).map fun x=>m.wds.getD x 0
theorem segL_cons (m:HM) (a n:Nat):segL m a (n+1)=m.wds.getD a 0::segL m (a+1) n:=by simp[segL,List.range'_succ]
theorem segL_length (m:HM) (a n:Nat):(segL m a n).length=n:=by simp[segL]
theorem push_to (σ:AMem) (s:SlV) (l l':List Int) (c:Nat) (hl:l.length+l'.length≤1000000) (hs:IntsAt 0 σ s l) (hne:l'≠[]):
    ∃ s' σ',appendD P ty_int s (some ⟨σ.length,0,none⟩,l'.length,c) (σ++[.cells (inRow l') ty_int true])=some (s',σ')∧Grows σ s σ' s'∧IntsAt 0 σ' s' (l++l'):=by
  obtain ⟨s',σ',e,g,h⟩:=append_grows (σ++[.cells (inRow l') ty_int true]) s l l' (some ⟨σ.length,0,none⟩) c hl (hs.app _) hne (by
    simp only[firstA,ldN,List.getElem?_concat_length,inRow_length,Nat.mul_one,Nat.zero_add,Nat.le_refl,if_true,List.drop_zero]
    rw[List.take_of_length_le (by rw[inRow_length]; exact Nat.le_refl _)])
  exact ⟨s',σ',e,(Grows.app _ _ _).trans g,h⟩
theorem IntsAt.up {lo:Nat} {s:SlV} {l:List Int} (h:IntsAt 0 σ s l) (hn:∀ a,s.1=some a→lo≤a.block):IntsAt lo σ s l:=by
  rcases h with h | ⟨b,_,rfl,h⟩
  · exact .inl h
  · exact .inr ⟨b,hn _ rfl,rfl,h⟩
theorem Grows.behind {σ σ':AMem} {τ:AMem} {s s':SlV} (g:Grows (σ++τ) s σ' s') (hs:∀ a,s.1=some a→σ.length≤a.block):(∃ τ',σ'=σ++τ') ∧ ∀ a,s'.1=some a→σ.length≤a.block:=by
  refine ⟨⟨σ'.drop σ.length, ?_⟩, ?_⟩
  · have hlen:=g.len
    simp at hlen
    apply List.ext_getElem?
    intro q
    by_cases hq:q<σ.length
    · rw[List.getElem?_append_left hq,g.same q (by simp; omega) (fun a ha e=>by have:=hs a ha; omega),List.getElem?_append_left hq]
    · rw[List.getElem?_append_right (by omega),List.getElem?_drop]
      congr 1; omega
  · rcases g.new with rfl | hw
    · exact hs
    · intro a ha
      have:=hw a ha
      simp at this; omega
end Go.Proofs.YtlaplcglpnlieaaGreat
