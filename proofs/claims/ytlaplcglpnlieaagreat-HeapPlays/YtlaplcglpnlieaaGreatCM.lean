/-
  What the calls that change a heap come to (first part): the parts of a heap turned one by one; fields.
-/
import Derived.Test.YtlaplcglpnlieaaGreatCI
set_option linter.unusedVariables false
set_option linter.unusedSimpArgs false
namespace Go.Proofs.YtlaplcglpnlieaaGreat
open Go Go.AX
noncomputable local instance qCM:Quiet:=fullQuiet
local instance nCM:Kn:=⟨true⟩
variable {σ:AMem} {i:HIds} {m:HM}
theorem HIds.ne (h:i.l.Nodup):i.hb≠i.bl∧i.hb≠i.wd∧i.hb≠i.st∧i.hb≠i.sw∧i.hb≠i.pn∧i.hb≠i.pw∧i.hb≠i.pl∧i.hb≠i.fw ∧
    i.bl≠i.wd∧i.bl≠i.st∧i.bl≠i.sw∧i.bl≠i.pn∧i.bl≠i.pw∧i.bl≠i.pl∧i.bl≠i.fw ∧
    i.wd≠i.st∧i.wd≠i.sw∧i.wd≠i.pn∧i.wd≠i.pw∧i.wd≠i.pl∧i.wd≠i.fw ∧
    i.st≠i.sw∧i.st≠i.pn∧i.st≠i.pw∧i.st≠i.pl∧i.st≠i.fw∧i.sw≠i.pn∧i.sw≠i.pw∧i.sw≠i.pl∧i.sw≠i.fw ∧
    i.pn≠i.pw∧i.pn≠i.pl∧i.pn≠i.fw∧i.pw≠i.pl∧i.pw≠i.fw∧i.pl≠i.fw:=by
  simp[HIds.l,and_assoc] at h
  simp only[ne_eq]
  exact h
theorem HeapAt.setWd (h:HeapAt σ i m) (l:List Int) (hl:l.length=m.wds.length) (hi:∀ a,inI (l.getD a 0)):HeapAt (σ.set i.wd (.cells (inRow l) el_heap_Heap_words true)) i { m with wds:=l }:=by
  obtain ⟨n1,n2,n3,n4,n5,n6,n7,n8,n9,n10,n11,n12,n13,n14,n15,n16,n17,n18,n19,n20,n21,n22,n23,n24,n25,n26,n27,n28,n29,n30,n31,n32,n33,n34,n35,n36⟩:=HIds.ne h.nd
  have g:∀ {j},j≠i.wd→(σ.set i.wd (.cells (inRow l) el_heap_Heap_words true))[j]?=σ[j]?:=fun hj=>List.getElem?_set_ne (Ne.symm hj)
  exact ⟨by rw[g (by first | assumption | (apply Ne.symm; assumption)),h.hp]; simp only[hl],by rw[g (by first | assumption | (apply Ne.symm; assumption))]; exact h.bl,by rw[List.getElem?_set_self (getElem?_lt h.wd)],h.st.same (g (by first | assumption | (apply Ne.symm; assumption))) (g (by first | assumption | (apply Ne.symm; assumption))),h.pn.same (g (by first | assumption | (apply Ne.symm; assumption))) (g (by first | assumption | (apply Ne.symm; assumption))),by rw[g (by first | assumption | (apply Ne.symm; assumption))]; exact h.pl,by rw[g (by first | assumption | (apply Ne.symm; assumption))]; exact h.fw,h.nb,h.nt,by rw[hl]; exact h.wl,h.nd,hi⟩
theorem HeapAt.setBl (h:HeapAt σ i m) (l:List (Int × Int)) (hl:l.length=m.bls.length):HeapAt (σ.set i.bl (.cells (blRow l) el_heap_Heap_blocks true)) i { m with bls:=l }:=by
  obtain ⟨n1,n2,n3,n4,n5,n6,n7,n8,n9,n10,n11,n12,n13,n14,n15,n16,n17,n18,n19,n20,n21,n22,n23,n24,n25,n26,n27,n28,n29,n30,n31,n32,n33,n34,n35,n36⟩:=HIds.ne h.nd
  have g:∀ {j},j≠i.bl→(σ.set i.bl (.cells (blRow l) el_heap_Heap_blocks true))[j]?=σ[j]?:=fun hj=>List.getElem?_set_ne (Ne.symm hj)
  exact ⟨by rw[g (by first | assumption | (apply Ne.symm; assumption)),h.hp]; simp only[hl],by rw[List.getElem?_set_self (getElem?_lt h.bl)],by rw[g (by first | assumption | (apply Ne.symm; assumption))]; exact h.wd,by rw[hl]; exact h.st.same (g (by first | assumption | (apply Ne.symm; assumption))) (g (by first | assumption | (apply Ne.symm; assumption))),by rw[hl]; exact h.pn.same (g (by first | assumption | (apply Ne.symm; assumption))) (g (by first | assumption | (apply Ne.symm; assumption))),by rw[g (by first | assumption | (apply Ne.symm; assumption))]; exact h.pl,by rw[g (by first | assumption | (apply Ne.symm; assumption))]; exact h.fw,by rw[hl]; exact h.nb,by rw[hl]; exact h.nt,by rw[hl]; exact h.wl,h.nd,h.wi⟩
theorem HeapAt.setSt (h:HeapAt σ i m) (j v:Nat):HeapAt (σ.set i.sw (.cells (rowOf (tput 1 m.stw j v)) el_side_Table_words true)) i { m with stw:=tput 1 m.stw j v }:=by
  obtain ⟨n1,n2,n3,n4,n5,n6,n7,n8,n9,n10,n11,n12,n13,n14,n15,n16,n17,n18,n19,n20,n21,n22,n23,n24,n25,n26,n27,n28,n29,n30,n31,n32,n33,n34,n35,n36⟩:=HIds.ne h.nd
  have g:∀ {j'},j'≠i.sw→(σ.set i.sw (.cells (rowOf (tput 1 m.stw j v)) el_side_Table_words true))[j']?=σ[j']?:=fun hj=>List.getElem?_set_ne (Ne.symm hj)
  exact ⟨by rw[g (by first | assumption | (apply Ne.symm; assumption)),h.hp],by rw[g (by first | assumption | (apply Ne.symm; assumption))]; exact h.bl,by rw[g (by first | assumption | (apply Ne.symm; assumption))]; exact h.wd,h.st.put (by first | assumption | (apply Ne.symm; assumption)) j v,h.pn.same (g (by first | assumption | (apply Ne.symm; assumption))) (g (by first | assumption | (apply Ne.symm; assumption))),by rw[g (by first | assumption | (apply Ne.symm; assumption))]; exact h.pl,by rw[g (by first | assumption | (apply Ne.symm; assumption))]; exact h.fw,h.nb,h.nt,h.wl,h.nd,h.wi⟩
theorem HeapAt.setPn (h:HeapAt σ i m) (j v:Nat):HeapAt (σ.set i.pw (.cells (rowOf (tput 1 m.pnw j v)) el_side_Table_words true)) i { m with pnw:=tput 1 m.pnw j v }:=by
  obtain ⟨n1,n2,n3,n4,n5,n6,n7,n8,n9,n10,n11,n12,n13,n14,n15,n16,n17,n18,n19,n20,n21,n22,n23,n24,n25,n26,n27,n28,n29,n30,n31,n32,n33,n34,n35,n36⟩:=HIds.ne h.nd
  have g:∀ {j'},j'≠i.pw→(σ.set i.pw (.cells (rowOf (tput 1 m.pnw j v)) el_side_Table_words true))[j']?=σ[j']?:=fun hj=>List.getElem?_set_ne (Ne.symm hj)
  exact ⟨by rw[g (by first | assumption | (apply Ne.symm; assumption)),h.hp],by rw[g (by first | assumption | (apply Ne.symm; assumption))]; exact h.bl,by rw[g (by first | assumption | (apply Ne.symm; assumption))]; exact h.wd,h.st.same (g (by first | assumption | (apply Ne.symm; assumption))) (g (by first | assumption | (apply Ne.symm; assumption))),h.pn.put (by first | assumption | (apply Ne.symm; assumption)) j v,by rw[g (by first | assumption | (apply Ne.symm; assumption))]; exact h.pl,by rw[g (by first | assumption | (apply Ne.symm; assumption))]; exact h.fw,h.nb,h.nt,h.wl,h.nd,h.wi⟩
theorem HeapAt.setPl (h:HeapAt σ i m) (l:List (Int × Int)):HeapAt (σ.set i.pl (.map (mpRow l))) i { m with pl:=l }:=by
  obtain ⟨n1,n2,n3,n4,n5,n6,n7,n8,n9,n10,n11,n12,n13,n14,n15,n16,n17,n18,n19,n20,n21,n22,n23,n24,n25,n26,n27,n28,n29,n30,n31,n32,n33,n34,n35,n36⟩:=HIds.ne h.nd
  have g:∀ {j},j≠i.pl→(σ.set i.pl (.map (mpRow l)))[j]?=σ[j]?:=fun hj=>List.getElem?_set_ne (Ne.symm hj)
  exact ⟨by rw[g (by first | assumption | (apply Ne.symm; assumption)),h.hp],by rw[g (by first | assumption | (apply Ne.symm; assumption))]; exact h.bl,by rw[g (by first | assumption | (apply Ne.symm; assumption))]; exact h.wd,h.st.same (g (by first | assumption | (apply Ne.symm; assumption))) (g (by first | assumption | (apply Ne.symm; assumption))),h.pn.same (g (by first | assumption | (apply Ne.symm; assumption))) (g (by first | assumption | (apply Ne.symm; assumption))),by rw[List.getElem?_set_self (getElem?_lt h.pl)],by rw[g (by first | assumption | (apply Ne.symm; assumption))]; exact h.fw,h.nb,h.nt,h.wl,h.nd,h.wi⟩
theorem HeapAt.setFw (h:HeapAt σ i m) (l:List (Int × Int)):HeapAt (σ.set i.fw (.map (mpRow l))) i { m with fw:=l }:=by
  obtain ⟨n1,n2,n3,n4,n5,n6,n7,n8,n9,n10,n11,n12,n13,n14,n15,n16,n17,n18,n19,n20,n21,n22,n23,n24,n25,n26,n27,n28,n29,n30,n31,n32,n33,n34,n35,n36⟩:=HIds.ne h.nd
  have g:∀ {j},j≠i.fw→(σ.set i.fw (.map (mpRow l)))[j]?=σ[j]?:=fun hj=>List.getElem?_set_ne (Ne.symm hj)
  exact ⟨by rw[g (by first | assumption | (apply Ne.symm; assumption)),h.hp],by rw[g (by first | assumption | (apply Ne.symm; assumption))]; exact h.bl,by rw[g (by first | assumption | (apply Ne.symm; assumption))]; exact h.wd,h.st.same (g (by first | assumption | (apply Ne.symm; assumption))) (g (by first | assumption | (apply Ne.symm; assumption))),h.pn.same (g (by first | assumption | (apply Ne.symm; assumption))) (g (by first | assumption | (apply Ne.symm; assumption))),by rw[g (by first | assumption | (apply Ne.symm; assumption))]; exact h.pl,by rw[List.getElem?_set_self (getElem?_lt h.fw)],h.nb,h.nt,h.wl,h.nd,h.wi⟩
theorem HeapAt.st6 (h:HeapAt σ i m) (b:Int):∃ σ',st1 σ i.hb 6 (.int .i64 b)=some σ'∧HeapAt σ' i { m with births:=b }∧Keeps i σ σ':=by
  obtain ⟨n1,n2,n3,n4,n5,n6,n7,n8,n9,n10,n11,n12,n13,n14,n15,n16,n17,n18,n19,n20,n21,n22,n23,n24,n25,n26,n27,n28,n29,n30,n31,n32,n33,n34,n35,n36⟩:=HIds.ne h.nd
  simp only[st1,h.hp]
  refine ⟨_,rfl, ?_,Keeps.set σ _ (by simp[HIds.l])⟩
  have g:∀ {j o},j≠i.hb→(σ.set i.hb o)[j]?=σ[j]?:=fun hj=>List.getElem?_set_ne (Ne.symm hj)
  exact ⟨by rw[List.getElem?_set_self (getElem?_lt h.hp)]; rfl,by rw[g (by first | assumption | (apply Ne.symm; assumption))]; exact h.bl,by rw[g (by first | assumption | (apply Ne.symm; assumption))]; exact h.wd,h.st.same (g (by first | assumption | (apply Ne.symm; assumption))) (g (by first | assumption | (apply Ne.symm; assumption))),h.pn.same (g (by first | assumption | (apply Ne.symm; assumption))) (g (by first | assumption | (apply Ne.symm; assumption))),by rw[g (by first | assumption | (apply Ne.symm; assumption))]; exact h.pl,by rw[g (by first | assumption | (apply Ne.symm; assumption))]; exact h.fw,h.nb,h.nt,h.wl,h.nd,h.wi⟩
theorem inRow_set (l:List Int) (a:Nat) (v:Int):inRow (l.set a v)=(inRow l).set a (.int .i64 v):=by simp[inRow,List.map_set]
theorem getD_set_in (l:List Int) (a b:Nat) (v:Int):(l.set a v).getD b 0=if a=b∧a<l.length then v else l.getD b 0:=by
  simp only[List.getD_eq_getElem?_getD,List.getElem?_set]
  split
  · rename_i e; subst e
    split
    · rename_i h; simp[h]
    · rename_i h; simp[h,List.getElem?_eq_none (Nat.le_of_not_lt h)]
  · rename_i e; simp[e]
theorem HeapAt.st1 (h:HeapAt σ i m) {a:Nat} (ha:a<m.wds.length) (v:Int) (hv:inI v):AX.st1 σ i.wd a (.int .i64 v)=some (σ.set i.wd (.cells (inRow (m.wds.set a v)) el_heap_Heap_words true))∧HeapAt (σ.set i.wd (.cells (inRow (m.wds.set a v)) el_heap_Heap_words true)) i { m with wds:=m.wds.set a v }:=by
  refine ⟨?_,h.setWd _ (by simp) fun b=>?_⟩
  · simp only[AX.st1,h.wd,inRow_length,ha,if_true,inRow_set]
  · rw[getD_set_in]
    split
    · exact hv
    · exact h.wi b
def Turns (mm:Option (Value × AMem)) (σ:AMem) (i:HIds) (v:Value) (m':HM):Prop:=∃ σ',mm=some (v,σ')∧HeapAt σ' i m'∧Keeps i σ σ'
def fieldM (m:HM) (a x:Int) (data:Bool):Int × Int:=
  if hasM m a then
    let j:=a.toNat/2
    let first:=a+2+(if data then refsAt m j else 0)
    if 0≤x∧x<(if data then dataAt m j else refsAt m j) then (first+x,0) else (0,1)
  else (0,4)
theorem field_to (k:Nat) (h:HeapAt σ i m) (hI:Inv m) (a x:Int) (ha:inI a) (data:Bool):∃ τ,d_heap_Heap_field (k+6) (hptr i) a x data σ=some (.tuple #[.int .i64 (fieldM m a x data).1,.int .i64 (fieldM m a x data).2],σ++τ):=by
  have hw:=h.wl
  have ht:=h.nt
  rw[d_heap_Heap_field_eq,b_heap_Heap_field]
  simp only[object_to _ h a ha,Option.bind_some,toI_int]
  cases hh:hasM m a with
  | false=>exact ⟨[],by simp[fieldM,hh]⟩
  | true=>
    obtain ⟨j,rfl,hs⟩:=hasM_spec hh
    obtain ⟨z1,z2,z3,z4,z5,z6⟩:=hI.size hs
    have hj:=hs.1
    have e1:w64 (((2*j:Nat):Int)+1)=((2*j+1:Nat):Int):=w64_in (by unfold inI; omega)
    have e2:w64 (((2*j:Nat):Int)+2)=((2*j+2:Nat):Int):=w64_in (by unfold inI; omega)
    obtain ⟨τ,hsh⟩:=shape_to (k+4) (m.wds.getD (2*j+1) 0) (h.wi _) σ
    simp only[if_true,bne_self_eq_false,cond_false,Nat.zero_add,h.ld1',e1,Int.toNat_natCast,Nat.mul_one,Option.bind_some]
    rw[if_pos (by omega)]
    simp only[Option.bind_some,h.ldW (show 2*j+1<m.wds.length by omega),hsh,a_iii_eq,allocK]
    refine ⟨τ++[.cells [.int .i64 (refsAt m j),.int .i64 (dataAt m j),.int .i64 ((m.wds.getD (2*j+1) 0).tdiv 4096)] ty_api_Shape true], ?_⟩
    have hst:∀ (μ:AMem) (x y z:Value) (u v w:Value) T,stN (μ++[.cells [x,y,z] T true]) μ.length 0 [u,v,w]=some (μ++[.cells [u,v,w] T true]):=by
      intro μ x y z u v w T; simp[stN,setRange]
    simp only[hst,Option.bind_some,ldI_new,Nat.zero_add,List.getElem?_cons_zero,List.getElem?_cons_succ,toI_int]
    rw[show ((m.wds.getD (2*j+1) 0).tmod 4096).tdiv 16=dataAt m j from rfl,show (m.wds.getD (2*j+1) 0).tmod 16=refsAt m j from rfl]
    rw[List.append_assoc]
    have ej:((2*j:Nat):Int).toNat/2=j:=by omega
    unfold fieldM
    rw[hh]
    simp only[if_true,ej,e2]
    have main:∀ (f0 many:Int),0≤many→many≤4000→0≤f0→f0≤5000 → ∀ (μ:AMem),((bif decide (x<0) then some (true,μ) else some (decide (x≥many),μ)).bind fun r20=>bif r20.1 then (some (Value.tuple #[.int .i64 (0:Int),.int .i64 (1:Int)],r20.2)) else (some (.tuple #[.int .i64 (w64 (f0+x)),.int .i64 (0:Int)],r20.2))) =
        some (.tuple #[.int .i64 (if 0≤x∧x<many then (f0+x,(0:Int)) else (0,1)).1,.int .i64 (if 0≤x∧x<many then (f0+x,(0:Int)) else (0,1)).2],μ):=by
      intro f0 many h1 h2 h3 h4 μ
      by_cases c1:x<0
      · simp only[show decide (x<0)=true from by simpa using c1,cond_true,Option.bind_some,show ¬ (0≤x∧x<many) from by omega,if_false]
      · by_cases c2:x<many
        · simp only[show decide (x<0)=false from by simpa using c1,cond_false,Option.bind_some,show decide (x≥many)=false from by simp; omega,show (0≤x∧x<many) from by omega,and_self,if_true]
          rw[w64_in (by unfold inI; omega)]
        · simp only[show decide (x<0)=false from by simpa using c1,cond_false,Option.bind_some,show decide (x≥many)=true from by simp; omega,cond_true,show ¬ (0≤x∧x<many) from by omega,if_false]
    cases data with
    | false=>
      simp only[cond_false,Option.bind_some,if_true,u_ii_eq,Bool.false_eq_true,if_false,Int.add_zero]
      rw[main _ _ z4 (by omega) (by omega) (by omega)]
      rw[show ((2*j+2:Nat):Int)=((2*j:Nat):Int)+2 from by omega]
    | true=>
      have e3:w64 (((2*j+2:Nat):Int)+refsAt m j)=((2*j:Nat):Int)+2+refsAt m j:=by rw[w64_in (by unfold inI; omega)]; omega
      simp only[cond_true,Option.bind_some,if_true,u_ii_eq,e3]
      rw[main _ _ z5 (by omega) (by omega) (by omega)]
theorem fieldM_in (h:Inv m) {a x:Int} {data:Bool} {w:Int} (hf:fieldM m a x data=(w,0)):∃ j t:Nat,Start m j∧a=((2*j:Nat):Int)∧w=((2*j+2+t:Nat):Int)∧2+t<sz m j:=by
  unfold fieldM at hf
  split at hf
  · rename_i hh
    obtain ⟨j,rfl,hs⟩:=hasM_spec hh
    have ej:((2*j:Nat):Int).toNat/2=j:=by omega
    obtain ⟨z1,z2,z3,z4,z5,z6⟩:=h.size hs
    simp only[ej] at hf
    cases data with
    | false=>
      simp only[Bool.false_eq_true,if_false] at hf
      split at hf
      · rename_i hc
        have hw:=congrArg Prod.fst hf
        simp only at hw
        exact ⟨j,x.toNat,hs,rfl,by omega,by omega⟩
      · have:=congrArg Prod.snd hf
        simp at this
    | true=>
      simp only[if_true] at hf
      split at hf
      · rename_i hc
        have hw:=congrArg Prod.fst hf
        simp only at hw
        exact ⟨j,(refsAt m j+x).toNat,hs,rfl,by omega,by omega⟩
      · have:=congrArg Prod.snd hf
        simp at this
  · have:=congrArg Prod.snd hf
    simp at this
theorem Inv.setWord (h:Inv m) {j t:Nat} (hs:Start m j) (ht:2+t<sz m j) (v:Int):Inv { m with wds:=m.wds.set (2*j+2+t) v }:=by
  have hkey:∀ j',Start m j' → ∀ c,c<2→(m.wds.set (2*j+2+t) v).getD (2*j'+c) 0=m.wds.getD (2*j'+c) 0:=by
    intro j' hs' c hc
    rw[getD_set_in,if_neg]
    rintro ⟨e,_⟩
    have h1:=h.apart j j' hs hs'
    have hz:=h.size hs'
    rcases Nat.lt_trichotomy j j' with hlt | rfl | hlt
    · have:=h1 hlt; omega
    · omega
    · omega
  have key0:∀ j',Start m j'→(m.wds.set (2*j+2+t) v).getD (2*j') 0=m.wds.getD (2*j') 0:=fun j' hs'=>hkey j' hs' 0 (by decide)
  have hsz:∀ j',Start m j'→sz { m with wds:=m.wds.set (2*j+2+t) v } j'=sz m j':=fun j' hs'=>by
    unfold sz; rw[hkey j' hs' 1 (by decide)]
  refine ⟨fun j' hs'=>?_,fun j' hs'=>?_,fun j1 j2 h1 h2 hlt=>?_,fun j' hs'=>?_,fun id a hg=>?_,h.brt,h.onc⟩
  · obtain ⟨r,d,k,hv,hn⟩:=h.good j' hs'
    exact ⟨r,d,k,hv,by rw[hkey j' hs' 1 (by decide)]; exact hn⟩
  · rw[hsz j' hs']; simpa using h.fit j' hs'
  · rw[hsz j1 h1]; exact h.apart j1 j2 h1 h2 hlt
  · have:=h.idn j' hs'
    rw[← key0 j' hs'] at this
    exact this
  · obtain ⟨j',rfl,hs',he⟩:=h.plc id a hg
    exact ⟨j',rfl,hs',(key0 j' hs').trans he⟩
end Go.Proofs.YtlaplcglpnlieaaGreat
