/-
  RZ SA SB SC.
-/
import Derived.Test.YtlaplcglpnlieaaGreatM2
import Derived.Test.YtlaplcglpnlieaaGreatCZ
set_option linter.unusedVariables false
set_option linter.unusedSimpArgs false
namespace Go.Proofs.YtlaplcglpnlieaaGreat
open Go Go.AX
section
open Go Go.AX
noncomputable local instance qRZ:Quiet:=fullQuiet
local instance nRZ:Kn:=⟨true⟩
variable {σ:AMem} {m:HM} {t:RM} {i:RI}
theorem rKill_to (k:Nat) (hk:5000≤k) (h:RG σ i m t) (hP:PinZ m) (hS:Sh m) (a:Int):RGoes (d_ref02_Heap_Kill (k+4) (rptr i) a σ) σ i (.int .i64 (killR m a).1) (killR m a).2:=by
  have hol:=h.ol
  rw[d_ref02_Heap_Kill_eq,b_ref02_Heap_Kill]
  have hix:=rIndex_g (k+1) (by omega) h a
  simp only[rlacks_g k hk h a,Option.bind_some,toI_int]
  unfold killR
  cases hh:hasM m a with
  | false=>
    simp only[Bool.false_eq_true,if_false,ne4,cond_true]
    exact RGoes.same0 h hP rfl
  | true=>
    obtain ⟨x,j,b,p,F⟩:=h.found hh
    obtain ⟨σ',os',e,h',k',_,_⟩:=rcut_to (k+2) h.at_ (by omega) F.xl
    have ea:a.toNat/2=j:=by rw[F.e,Int.toNat_natCast]; omega
    obtain ⟨s1,s2⟩:=h.sim.kill h.inv hS hP F.st F.all
    rw[ea]
    simp only[if_true,bne_self_eq_false,cond_false,hix,Option.bind_some,toI_int,F.idx,e,r_0_eq]
    exact ⟨σ',_,_,rfl,h',s1,s2,k'⟩
theorem om_apart {om:List (SlV × SlV)} (h:(omL om).Nodup) {y z:Nat} (hy:y<om.length) (hz:z<om.length) {j:Nat} (hj:j ∈ hs om[y].1∨j ∈ hs om[y].2) (hk:j ∈ hs om[z].1∨j ∈ hs om[z].2):y=z:=by
  obtain ⟨_,h2⟩:=List.pairwise_flatMap.1 h
  have h3:=List.pairwise_iff_getElem.1 h2
  rcases Nat.lt_trichotomy y z with hlt | he | hlt
  · exact absurd rfl (h3 y z hy hz hlt j (List.mem_append.2 hj) j (List.mem_append.2 hk))
  · exact he
  · exact absurd rfl (h3 z y hz hy hlt j (List.mem_append.2 hk) j (List.mem_append.2 hj))
theorem om_side {om:List (SlV × SlV)} (h:(omL om).Nodup) {y:Nat} (hy:y<om.length) {j:Nat} (hj:j ∈ hs om[y].1):j ∉ hs om[y].2:=by
  obtain ⟨h1,_⟩:=List.pairwise_flatMap.1 h
  obtain ⟨_,_,h3⟩:=List.nodup_append.1 (h1 _ (List.getElem_mem hy))
  exact fun hk=>h3 j hj j hk rfl
theorem obRow_same:∀ (l:List RO) (om:List (SlV × SlV)) (y:Nat) (hy:y<l.length) (hy':y<om.length) (o:RO),roCells o om[y]=roCells l[y] om[y]→obRow (l.set y o) om=obRow l om
  | [],om,y,hy,_,_,_=>by simp at hy
  | a::l,[],y,_,hy',_,_=>by simp at hy'
  | a::l,p::om,0,hy,hy',o,h=>by
    simp only[List.set_cons_zero,obRow]
    rw[show roCells o p=roCells a p from h]
  | a::l,p::om,y+1,hy,hy',o,h=>by
    simp only[List.set_cons_succ,obRow]
    rw[obRow_same l om y (by simpa using hy) (by simpa using hy') o h]
theorem RAt.setIn (h:RAt σ i t) {y b:Nat} (hy:y<t.ob.length) (hy':y<i.om.length) (hb:b ∈ hs i.om[y].1∨b ∈ hs i.om[y].2) (c:AObj) (o:RO) (hro:roCells o i.om[y]=roCells t.ob[y] i.om[y]) (hin:IntsG (σ.set b c) i.om[y].1 o.refs∧IntsG (σ.set b c) i.om[y].2 o.data):
    RAt (σ.set b c) i { t with ob:=t.ob.set y o }:=by
  have sep:=h.sep
  have hm:b ∈ omL i.om:=om_mem hy' hb
  refine { hp:=?_,bl:=?_,ob:=?_,fw:=?_,ol:=by show _=(t.ob.set y o).length; rw[List.length_set]; exact h.ol,inn:=?_,nd:=h.nd,lt:=fun j hj=>by rw[List.length_set]; exact h.lt j hj }
  · rw[List.getElem?_set_ne (fun e:b=i.hb=>sep.hD (by rw[← e]; exact hm))]; exact h.hp
  · exact h.bl.like fun a ha=>List.getElem?_set_ne fun e:b=a.block=>sep.AD a.block (mem_hs.2 ⟨a,ha,rfl⟩) (by rw[← e]; exact hm)
  · show SlAt _ 8 _ _ (t.ob.set y o).length (obRow (t.ob.set y o) i.om)
    rw[List.length_set,obRow_same _ _ _ hy hy' _ hro]
    exact h.ob.like fun a ha=>List.getElem?_set_ne fun e:b=a.block=>sep.BD a.block (mem_hs.2 ⟨a,ha,rfl⟩) (by rw[← e]; exact hm)
  · exact h.fw.like fun a ha=>List.getElem?_set_ne fun e:b=a.block=>sep.CD a.block (mem_hs.2 ⟨a,ha,rfl⟩) (by rw[← e]; exact hm)
  · intro z h1 h2
    have h1':z<t.ob.length:=by simpa using h1
    show IntsG _ i.om[z].1 (t.ob.set y o)[z].refs∧IntsG _ i.om[z].2 (t.ob.set y o)[z].data
    by_cases e:y=z
    · subst e
      rw[List.getElem_set_self]
      exact hin
    · rw[List.getElem_set_ne e]
      exact ⟨(h.inn z h1' h2).1.like fun d hd=>List.getElem?_set_ne fun e':b=d=>e (om_apart sep.D hy' h2 hb (.inl (by rw[e']; exact hd))),(h.inn z h1' h2).2.like fun d hd=>List.getElem?_set_ne fun e':b=d=>e (om_apart sep.D hy' h2 hb (.inr (by rw[e']; exact hd)))⟩
theorem rstore (h:RG σ i m t) (hP:PinZ m) {a:Int} {x j b:Nat} {p:SlV × SlV} (F:Found σ i m t a x j b p) (q:Nat) (hq:2+q<use m j) (v:Int):
    ∃ b2 σ' t',(if (q:Int)<refsAt m j then p.1.1=some ⟨b2,0,none⟩∧AX.st1 σ b2 q (.int .i64 v)=some σ' else p.2.1=some ⟨b2,0,none⟩∧AX.st1 σ b2 (q-(refsAt m j).toNat) (.int .i64 v)=some σ')∧RAt σ' i t'∧Sim (wordM m (2*j+2+q) v) t'∧PinZ (wordM m (2*j+2+q) v)∧KeepR i i σ σ':=by
  have hu:=h.inv.use F.st
  obtain ⟨s1,s2⟩:=h.sim.word h.inv hP F.st F.all hq v
  obtain ⟨_,r1,r2,r3,r4,_⟩:=word1 h.inv F.st
  have hx':x<i.om.length:=by rw[h.at_.ol]; exact F.xl
  have ep:i.om[x]=p:=by have:=F.om; rw[List.getElem?_eq_getElem hx'] at this; exact Option.some.inj this
  have eo:t.ob[x]'F.xl=roOf m j:=by have:=F.ob; rw[List.getElem?_eq_getElem F.xl] at this; exact Option.some.inj this
  have sep:=h.at_.sep
  have lr:(roOf m j).refs.length=(refsAt m j).toNat:=segL_length _ _ _
  have ld:(roOf m j).data.length=(dataAt m j).toNat:=segL_length _ _ _
  by_cases c:(q:Int)<refsAt m j
  · rw[if_pos c] at s1
    obtain ⟨b2,e2,l2,c2⟩:=F.rs.ldx (x:=q) (by omega)
    have hb2:b2 ∈ hs p.1:=hs_some e2
    have st:=st_row c2 (x:=q) (by omega) v
    refine ⟨b2,_,_,by rw[if_pos c]; exact ⟨e2,st⟩,h.at_.setIn F.xl hx' (.inl (by rw[ep]; exact hb2)) _ _ (by rw[eo]; rfl) ?_,s1,s2,KeepR.set _ _ (i.om_mem hx' (.inl (by rw[ep]; exact hb2)))⟩
    rw[ep]
    refine ⟨⟨by show _=((roOf m j).refs.set q v).length; rw[List.length_set]; exact F.rs.1,fun _=>?_,fun a ha=>by rw[e2] at ha; cases ha; exact ⟨_,_,_,List.getElem?_set_self (getElem?_lt c2),Nat.zero_le _⟩⟩,F.ds.like fun d hd=>List.getElem?_set_ne fun e:b2=d=>om_side sep.D hx' (j:=b2) (by rw[ep]; exact hb2) (by rw[ep,e]; exact hd)⟩
    obtain ⟨b3,c3,e3,c4⟩:=F.rs.2.1 (fun hn=>by rw[hn] at lr; simp at lr; omega)
    rw[e3] at e2
    cases e2
    exact ⟨b2,c3,by rw[e3]; show _=(some _,((roOf m j).refs.set q v).length,c3); rw[List.length_set],List.getElem?_set_self (getElem?_lt c2)⟩
  · rw[if_neg c] at s1
    obtain ⟨b2,e2,l2,c2⟩:=F.ds.ldx (x:=q-(refsAt m j).toNat) (by omega)
    have hb2:b2 ∈ hs p.2:=hs_some e2
    have st:=st_row c2 (x:=q-(refsAt m j).toNat) (by omega) v
    refine ⟨b2,_,_,by rw[if_neg c]; exact ⟨e2,st⟩,h.at_.setIn F.xl hx' (.inr (by rw[ep]; exact hb2)) _ _ (by rw[eo]; rfl) ?_,s1,s2,KeepR.set _ _ (i.om_mem hx' (.inr (by rw[ep]; exact hb2)))⟩
    rw[ep]
    refine ⟨F.rs.like fun d hd=>List.getElem?_set_ne fun e:b2=d=>om_side sep.D hx' (j:=b2) (by rw[ep,e]; exact hd) (by rw[ep]; exact hb2),⟨by show _=((roOf m j).data.set _ v).length; rw[List.length_set]; exact F.ds.1,fun _=>?_,fun a ha=>by rw[e2] at ha; cases ha; exact ⟨_,_,_,List.getElem?_set_self (getElem?_lt c2),Nat.zero_le _⟩⟩⟩
    obtain ⟨b3,c3,e3,c4⟩:=F.ds.2.1 (fun hn=>by rw[hn] at ld; simp at ld; omega)
    rw[e3] at e2
    cases e2
    exact ⟨b2,c3,by rw[e3]; show _=(some _,((roOf m j).data.set _ v).length,c3); rw[List.length_set],List.getElem?_set_self (getElem?_lt c2)⟩
theorem rSetRef_to (k:Nat) (hk:5000≤k) (h:RG σ i m t) (hP:PinZ m) (a x v:Int):RGoes (d_ref02_Heap_SetRef (k+4) (rptr i) a x v σ) σ i (.int .i64 (setRefR m a x v).1) (setRefR m a x v).2:=by
  have hol:=h.ol
  rw[d_ref02_Heap_SetRef_eq,b_ref02_Heap_SetRef]
  have hix:=rIndex_g (k+1) (by omega) h a
  simp only[rlacks_g k hk h a,Option.bind_some,toI_int]
  unfold setRefR fieldM
  cases hh:hasM m a with
  | false=>
    simp only[Bool.false_eq_true,if_false,ne4,cond_true,show ((4:Int)=0)=False from by decide]
    exact RGoes.same0 h hP rfl
  | true=>
    obtain ⟨y,j,b,p,F⟩:=h.found hh
    have hu:=h.inv.use F.st
    obtain ⟨_,r1,r2,r3,r4,_⟩:=word1 h.inv F.st
    have hy:=F.xl
    have rl:p.1.2.1=(refsAt m j).toNat:=by rw[F.rs.1]; exact segL_length _ _ _
    have ea:a.toNat/2=j:=by rw[F.e,Int.toNat_natCast]; omega
    have qy:(0≤(y:Int)∧(y:Int)<((t.ob.length:Nat):Int))=True:=eq_true (by omega)
    simp only[if_true,bne_self_eq_false,cond_false,hix,Option.bind_some,toI_int,F.idx,ea,Bool.false_eq_true,if_false]
    by_cases g0:x<0
    · rw[if_neg (show ¬ (0≤x∧x<refsAt m j) by omega)]
      simp only[decide_eq_true g0,cond_true,Option.bind_some,show ((1:Int)=0)=False from by decide,if_false]
      exact RGoes.same0 h hP rfl
    simp only[decide_eq_false g0,cond_false,Nat.zero_add,h.at_.ld1',qy,if_true,F.os,Option.bind_some,Int.toNat_natCast,F.ld.l5,rl]
    by_cases g1:x<refsAt m j
    rotate_left
    · rw[if_neg (show ¬ (0≤x∧x<refsAt m j) by omega)]
      simp only[decide_eq_true (show x≥(((refsAt m j).toNat:Nat):Int) by omega),cond_true,Option.bind_some,show ((1:Int)=0)=False from by decide,if_false]
      exact RGoes.same0 h hP rfl
    rw[if_pos (show 0≤x∧x<refsAt m j from ⟨by omega,g1⟩)]
    obtain ⟨n,rfl⟩:∃ n:Nat,x=(n:Int):=⟨x.toNat,by omega⟩
    simp only[decide_eq_false (show ¬ (n:Int)≥(((refsAt m j).toNat:Nat):Int) by omega),cond_false,if_true]
    have eh:d_ref02_Heap_Has (k+3) (rptr i) v σ=_:=rHas_to k hk h v
    have fin:RGoes ((ldS σ i.hb 1).bind fun l15=>if 0≤(y:Int)∧(y:Int)<(l15.2.1:Nat) then l15.1.bind fun a16=>(ldS σ a16.block (a16.off+y*8+5)).bind fun l17=>if 0≤(n:Int)∧(n:Int)<(l17.2.1:Nat) then l17.1.bind fun a18=>(AX.st1 σ a18.block (a18.off+((n:Int)).toNat*1) (.int .i64 v)).bind fun s19=>some (Value.int .i64 0,s19) else none else none) σ i (.int .i64 0) (wordM m (a+2+0+(n:Int)).toNat v):=by
      obtain ⟨b2,σ',t',e,h',s1,s2,k'⟩:=rstore h hP F n (by omega) v
      rw[if_pos g1] at e
      have qn:(0≤(n:Int)∧(n:Int)<(((refsAt m j).toNat:Nat):Int))=True:=eq_true (by omega)
      rw[show (a+2+0+(n:Int)).toNat=2*j+2+n from by rw[F.e]; omega]
      exact ⟨σ',i,t',by simp only[h.at_.ld1',Option.bind_some,qy,if_true,F.os,Nat.zero_add,F.ld.l5,rl,qn,e.1,Int.toNat_natCast,Nat.mul_one,e.2],h',s1,s2,k'⟩
    by_cases g2:v=0
    · subst g2
      simp only[bne_self_eq_false,cond_false,Option.bind_some,ne_eq,not_true_eq_false,false_and,if_false]
      exact fin
    · simp only[bne_iff_ne.2 g2,cond_true,eh,Option.bind_some,toB_bool]
      cases hv:hasM m v with
      | false=>
        simp only[Bool.not_false,cond_true,ne_eq,g2,not_false_eq_true,and_self,if_true]
        exact RGoes.same0 h hP rfl
      | true=>
        simp only[Bool.not_true,cond_false,Bool.true_eq_false,and_false,if_false]
        exact fin
theorem rSetData_to (k:Nat) (hk:5000≤k) (h:RG σ i m t) (hP:PinZ m) (a x v:Int):RGoes (d_ref02_Heap_SetData (k+4) (rptr i) a x v σ) σ i (.int .i64 (setDataR m a x v).1) (setDataR m a x v).2:=by
  have hol:=h.ol
  rw[d_ref02_Heap_SetData_eq,b_ref02_Heap_SetData]
  have hix:=rIndex_g (k+1) (by omega) h a
  simp only[rlacks_g k hk h a,Option.bind_some,toI_int]
  unfold setDataR fieldM
  cases hh:hasM m a with
  | false=>
    simp only[Bool.false_eq_true,if_false,ne4,cond_true,show ((4:Int)=0)=False from by decide]
    exact RGoes.same0 h hP rfl
  | true=>
    obtain ⟨y,j,b,p,F⟩:=h.found hh
    have hu:=h.inv.use F.st
    obtain ⟨_,r1,r2,r3,r4,_⟩:=word1 h.inv F.st
    have hy:=F.xl
    have rl:p.2.2.1=(dataAt m j).toNat:=by rw[F.ds.1]; exact segL_length _ _ _
    have ea:a.toNat/2=j:=by rw[F.e,Int.toNat_natCast]; omega
    have qy:(0≤(y:Int)∧(y:Int)<((t.ob.length:Nat):Int))=True:=eq_true (by omega)
    simp only[if_true,bne_self_eq_false,cond_false,hix,Option.bind_some,toI_int,F.idx,ea]
    by_cases g0:x<0
    · rw[if_neg (show ¬ (0≤x∧x<dataAt m j) by omega)]
      simp only[decide_eq_true g0,cond_true,Option.bind_some,show ((1:Int)=0)=False from by decide,if_false]
      exact RGoes.same0 h hP rfl
    simp only[decide_eq_false g0,cond_false,Nat.zero_add,h.at_.ld1',qy,if_true,F.os,Option.bind_some,Int.toNat_natCast,F.ld.l6,rl]
    by_cases g1:x<dataAt m j
    rotate_left
    · rw[if_neg (show ¬ (0≤x∧x<dataAt m j) by omega)]
      simp only[decide_eq_true (show x≥(((dataAt m j).toNat:Nat):Int) by omega),cond_true,Option.bind_some,show ((1:Int)=0)=False from by decide,if_false]
      exact RGoes.same0 h hP rfl
    rw[if_pos (show 0≤x∧x<dataAt m j from ⟨by omega,g1⟩)]
    obtain ⟨n,rfl⟩:∃ n:Nat,x=(n:Int):=⟨x.toNat,by omega⟩
    obtain ⟨b2,σ',t',e,h',s1,s2,k'⟩:=rstore h hP F ((refsAt m j).toNat+n) (by omega) v
    rw[if_neg (by omega),Nat.add_sub_cancel_left] at e
    have qn:(0≤(n:Int)∧(n:Int)<(((dataAt m j).toNat:Nat):Int))=True:=eq_true (by omega)
    simp only[decide_eq_false (show ¬ (n:Int)≥(((dataAt m j).toNat:Nat):Int) by omega),cond_false,if_true,qn,e.1,Option.bind_some,Int.toNat_natCast,Nat.zero_add,Nat.mul_one,e.2]
    rw[show (a+2+refsAt m j+(n:Int)).toNat=2*j+2+((refsAt m j).toNat+n) from by rw[F.e]; omega]
    exact ⟨σ',i,t',rfl,h',s1,s2,k'⟩
theorem rPoke_to (k:Nat) (hk:5000≤k) (h:RG σ i m t) (hP:PinZ m) (a v:Int):RGoes (d_ref02_Heap_Poke (k+4) (rptr i) a v σ) σ i (.int .i64 (pokeR m a v).1) (pokeR m a v).2:=by
  have hnt:=h.nt
  have hwl:=h.wl
  rw[d_ref02_Heap_Poke_eq,b_ref02_Heap_Poke]
  simp only[rMade_g (k+2) h,rword_to (k+2) h a,Option.bind_some,toB_bool,Bool.not_true,cond_false]
  unfold pokeR
  by_cases hr:0≤a∧a<(m.wds.length:Int)
  rotate_left
  · rw[decide_eq_false hr,if_neg hr]
    simp only[Bool.not_false,cond_true]
    exact RGoes.same0 h hP rfl
  obtain ⟨n,rfl⟩:∃ n:Nat,a=(n:Int):=⟨a.toNat,by omega⟩
  rw[decide_eq_true hr,if_pos hr,Int.toNat_natCast]
  obtain ⟨τ,e⟩:=rFind_to k hk h (n:Int)
  have hfi:findI m (n:Int)=findM m n:=by unfold findI; rw[if_pos hr,Int.toNat_natCast]
  rw[hfi] at e
  cases hf:findM m n with
  | none=>
    rw[hf] at e
    simp only[Bool.not_true,cond_false,e,Option.bind_some,r_ii_eq,ne4,cond_true]
    exact RGoes.same h hP τ rfl
  | some j=>
    rw[hf] at e
    obtain ⟨hs,_,f1,f2⟩:=findM_spec hf
    have hz:=h.inv.size hs
    have hu:=h.inv.use hs
    obtain ⟨v1,r1,r2,r3,r4,r5,r6,_⟩:=word1 h.inv hs
    have hg:=h.app τ
    obtain ⟨y,j',b,p,F⟩:=hg.found (hasM_start hs)
    have ej:j'=j:=by have:=F.e; omega
    subst ej
    have hix:=rIndex_g (k+1) (by omega) hg ((2*j':Nat):Int)
    have hx:=F.xl
    have rl:p.1.2.1=(refsAt m j').toNat:=by rw[F.rs.1]; exact segL_length _ _ _
    have dl:p.2.2.1=(dataAt m j').toNat:=by rw[F.ds.1]; exact segL_length _ _ _
    have qx:(0≤(y:Int)∧(y:Int)<((t.ob.length:Nat):Int))=True:=eq_true (by omega)
    obtain ⟨rn,hrn⟩:∃ rn:Nat,refsAt m j'=(rn:Int):=⟨(refsAt m j').toNat,by omega⟩
    obtain ⟨dn,hdn⟩:∃ dn:Nat,dataAt m j'=(dn:Int):=⟨(dataAt m j').toNat,by omega⟩
    have rt:(refsAt m j').toNat=rn:=by omega
    have dt:(dataAt m j').toNat=dn:=by omega
    rw[rt] at rl
    rw[dt] at dl
    obtain ⟨q,hq⟩:∃ q,n=2*j'+q:=⟨n-2*j',by omega⟩
    subst hq
    have w0:w64 (((2*j'+q:Nat):Int)-((2*j':Nat):Int))=(q:Int):=by rw[w64_in (by unfold inI; omega)]; omega
    have w1:w64 (((rn:Nat):Int)+((dn:Nat):Int))=((rn+dn:Nat):Int):=by rw[w64_in (by unfold inI; omega)]; omega
    simp only[Bool.not_true,cond_false,e,Option.bind_some,r_ii_eq,bne_self_eq_false,hix,toI_int,F.idx,Nat.zero_add,hg.at_.ld1',qx,if_true,F.os,Int.toNat_natCast,F.ld.l5,F.ld.l6,rl,dl,w0,w1]
    by_cases g0:q<2
    · have w2:w64 ((q:Int)-2)=(q:Int)-2:=w64_in (by unfold inI; omega)
      rw[if_neg (show ¬ (((2*j'+2:Nat):Int)≤((2*j'+q:Nat):Int)∧((2*j'+q:Nat):Int)<((2*j'+2:Nat):Int)+refsAt m j'+dataAt m j') by omega)]
      simp only[w2,decide_eq_true (show (q:Int)-2<0 by omega),cond_true,Option.bind_some]
      exact RGoes.same h hP τ rfl
    obtain ⟨c,rfl⟩:∃ c,q=2+c:=⟨q-2,by omega⟩
    have w2:w64 (((2+c:Nat):Int)-2)=(c:Int):=by rw[w64_in (by unfold inI; omega)]; omega
    simp only[w2,decide_eq_false (show ¬ (c:Int)<0 by omega),cond_false,Option.bind_some]
    by_cases g1:c<rn+dn
    rotate_left
    · rw[if_neg (show ¬ (((2*j'+2:Nat):Int)≤((2*j'+(2+c):Nat):Int)∧((2*j'+(2+c):Nat):Int)<((2*j'+2:Nat):Int)+refsAt m j'+dataAt m j') by omega)]
      simp only[decide_eq_true (show (c:Int)≥((rn+dn:Nat):Int) by omega),cond_true]
      exact RGoes.same h hP τ rfl
    rw[if_pos (show ((2*j'+2:Nat):Int)≤((2*j'+(2+c):Nat):Int)∧((2*j'+(2+c):Nat):Int)<((2*j'+2:Nat):Int)+refsAt m j'+dataAt m j' by omega)]
    obtain ⟨b2,σ',t',e2,h',s1,s2,k'⟩:=rstore hg hP F c (by omega) v
    rw[show 2*j'+(2+c)=2*j'+2+c from by omega]
    refine ⟨σ',i,t', ?_,h',s1,s2,(KeepR.app i σ τ).trans k'⟩
    simp only[decide_eq_false (show ¬ (c:Int)≥((rn+dn:Nat):Int) by omega),cond_false]
    by_cases g2:c<rn
    · rw[if_pos (show (c:Int)<refsAt m j' by omega)] at e2
      have qn:(0≤(c:Int)∧(c:Int)<((rn:Nat):Int))=True:=eq_true (by omega)
      simp only[decide_eq_true (show (c:Int)<((rn:Nat):Int) by omega),cond_true,hg.at_.ld1',qx,F.os,F.ld.l5,rl,qn,if_true,e2.1,Option.bind_some,Int.toNat_natCast,Nat.zero_add,Nat.mul_one,e2.2]
    · rw[if_neg (show ¬ (c:Int)<refsAt m j' by omega),rt] at e2
      have w3:w64 ((c:Int)-((rn:Nat):Int))=((c-rn:Nat):Int):=by rw[w64_in (by unfold inI; omega)]; omega
      have qn:(0≤((c-rn:Nat):Int)∧((c-rn:Nat):Int)<((dn:Nat):Int))=True:=eq_true (by omega)
      simp only[decide_eq_false (show ¬ (c:Int)<((rn:Nat):Int) by omega),cond_false,hg.at_.ld1',qx,F.os,F.ld.l6,dl,w3,qn,if_true,e2.1,Option.bind_some,Int.toNat_natCast,Nat.zero_add,Nat.mul_one,e2.2]
theorem obRow_pin:∀ (l:List RO) (om:List (SlV × SlV)) (y:Nat) (hy:y<l.length) (hy':y<om.length) (v:Bool),(obRow l om).set (y*8+7) (.bool v)=obRow (l.set y { l[y] with pin:=v }) om
  | [],om,y,hy,_,_=>by simp at hy
  | a::l,[],y,_,hy',_=>by simp at hy'
  | a::l,p::om,0,hy,hy',v=>rfl
  | a::l,p::om,y+1,hy,hy',v=>by
    have ih:=obRow_pin l om y (by simpa using hy) (by simpa using hy') v
    simp only[List.set_cons_succ,obRow,List.getElem_cons_succ]
    rw[← ih,List.set_append_right _ _ (by simp[roCells]; omega)]
    congr 2
    simp[roCells]; omega
theorem RAt.setPin (h:RAt σ i t) {y b:Nat} (hy:y<t.ob.length) (e:i.os.1=some ⟨b,0,none⟩) (hc:σ[b]?=some (.cells (obRow t.ob i.om) ty_dustcartref02_Object true)) (v:Bool):
    AX.st1 σ b (y*8+7) (.bool v)=some (σ.set b (.cells (obRow (t.ob.set y { t.ob[y] with pin:=v }) i.om) ty_dustcartref02_Object true))∧RAt (σ.set b (.cells (obRow (t.ob.set y { t.ob[y] with pin:=v }) i.om) ty_dustcartref02_Object true)) i { t with ob:=t.ob.set y { t.ob[y] with pin:=v } }∧KeepR i i σ (σ.set b (.cells (obRow (t.ob.set y { t.ob[y] with pin:=v }) i.om) ty_dustcartref02_Object true)):=by
  have sep:=h.sep
  have hy':y<i.om.length:=by rw[h.ol]; exact hy
  have hb:=hs_some e
  have hl:=obRow_len t.ob i.om h.ol
  refine ⟨?_,{ hp:=?_,bl:=?_,ob:=?_,fw:=?_,ol:=by show _=(t.ob.set y _).length; rw[List.length_set]; exact h.ol,inn:=?_,nd:=h.nd,lt:=fun j hj=>by rw[List.length_set]; exact h.lt j hj },KeepR.set _ _ (RI.mem_l.2 (.inr (.inr (.inl hb))))⟩
  · have:y*8+7<(obRow t.ob i.om).length:=by omega
    simp only[AX.st1,hc,this,if_true,obRow_pin t.ob i.om y hy hy' v]
  · rw[List.getElem?_set_ne (fun e:b=i.hb=>sep.hB (by rw[← e]; exact hb))]; exact h.hp
  · exact h.bl.like fun a ha=>List.getElem?_set_ne fun e:b=a.block=>sep.AB a.block (mem_hs.2 ⟨a,ha,rfl⟩) (by rw[← e]; exact hb)
  · have:=h.ob.form
    rw[e] at this
    refine .inr ⟨b, ?_,Nat.zero_le _, ?_,List.getElem?_set_self (getElem?_lt hc)⟩
    · show i.os=(_,(t.ob.set y _).length,(t.ob.set y _).length); rw[List.length_set]; exact this
    · exact obRow_len _ _ (by rw[List.length_set]; exact h.ol)
  · exact h.fw.like fun a ha=>List.getElem?_set_ne fun e:b=a.block=>sep.BC b hb (by rw[e]; exact mem_hs.2 ⟨a,ha,rfl⟩)
  · intro z h1 h2
    have h1':z<t.ob.length:=by simpa using h1
    show IntsG _ i.om[z].1 (t.ob.set y _)[z].refs∧IntsG _ i.om[z].2 (t.ob.set y _)[z].data
    have hz:=h.inn z h1' h2
    have hz':IntsG (σ.set b (.cells (obRow (t.ob.set y { t.ob[y] with pin:=v }) i.om) ty_dustcartref02_Object true)) i.om[z].1 t.ob[z].refs∧IntsG (σ.set b (.cells (obRow (t.ob.set y { t.ob[y] with pin:=v }) i.om) ty_dustcartref02_Object true)) i.om[z].2 t.ob[z].data:=
      ⟨hz.1.like fun d hd=>List.getElem?_set_ne fun e':b=d=>sep.BD b hb (by rw[e']; exact om_mem h2 (.inl hd)),hz.2.like fun d hd=>List.getElem?_set_ne fun e':b=d=>sep.BD b hb (by rw[e']; exact om_mem h2 (.inr hd))⟩
    by_cases e:y=z
    · subst e
      rw[List.getElem_set_self]
      exact hz'
    · rw[List.getElem_set_ne e]
      exact hz'
theorem rpin_to (k:Nat) (hk:5000≤k) (h:RG σ i m t) (hP:PinZ m) (hS:Sh m) (a:Int) (v:Bool):RGoes (d_ref02_Heap_pin (k+4) (rptr i) a v σ) σ i (.int .i64 (pinR m a (if v then 1 else 0)).1) (pinR m a (if v then 1 else 0)).2:=by
  have hol:=h.ol
  rw[d_ref02_Heap_pin_eq,b_ref02_Heap_pin]
  have hix:=rIndex_g (k+1) (by omega) h a
  simp only[rlacks_g k hk h a,Option.bind_some,toI_int]
  unfold pinR
  cases hh:hasM m a with
  | false=>
    simp only[Bool.false_eq_true,if_false,ne4,cond_true]
    exact RGoes.same0 h hP rfl
  | true=>
    obtain ⟨y,j,b,p,F⟩:=h.found hh
    have hy:=F.xl
    have ea:a.toNat/2=j:=by rw[F.e,Int.toNat_natCast]; omega
    have qy:(0≤(y:Int)∧(y:Int)<((t.ob.length:Nat):Int))=True:=eq_true (by omega)
    obtain ⟨e1,h1,k1⟩:=h.at_.setPin hy F.os F.cell v
    obtain ⟨s1,s2⟩:=h.sim.pins h.inv hS hP F.st F.all v
    have eo:t.ob[y]'F.xl=roOf m j:=by have:=F.ob; rw[List.getElem?_eq_getElem F.xl] at this; exact Option.some.inj this
    rw[ea]
    simp only[if_true,bne_self_eq_false,cond_false,Nat.zero_add,h.at_.ld1',hix,Option.bind_some,toI_int,F.idx,qy,F.os,Int.toNat_natCast,e1]
    exact ⟨_,i,_,rfl,h1,by rw[eo]; exact s1,s2,k1⟩
theorem rPin_to (k:Nat) (hk:5000≤k) (h:RG σ i m t) (hP:PinZ m) (hS:Sh m) (a:Int):RGoes (d_ref02_Heap_Pin (k+5) (rptr i) a σ) σ i (.int .i64 (pinR m a 1).1) (pinR m a 1).2:=by
  obtain ⟨σ',i',t',e,r⟩:=rpin_to k hk h hP hS a true
  refine ⟨σ',i',t', ?_,r⟩
  rw[d_ref02_Heap_Pin_eq,b_ref02_Heap_Pin]
  simp only[e,Option.bind_some,toI_int,if_true]
theorem rUnpin_to (k:Nat) (hk:5000≤k) (h:RG σ i m t) (hP:PinZ m) (hS:Sh m) (a:Int):RGoes (d_ref02_Heap_Unpin (k+5) (rptr i) a σ) σ i (.int .i64 (pinR m a 0).1) (pinR m a 0).2:=by
  obtain ⟨σ',i',t',e,r⟩:=rpin_to k hk h hP hS a false
  refine ⟨σ',i',t', ?_,r⟩
  rw[d_ref02_Heap_Unpin_eq,b_ref02_Heap_Unpin]
  simp only[e,Option.bind_some,toI_int,Bool.false_eq_true,if_false]
theorem rForget_to (k:Nat) (h:RG σ i m t) (hP:PinZ m):RGoes (d_ref02_Heap_Forget (k+2) (rptr i) σ) σ i (.int .i64 (m.fw.length:Int)) { m with fw:=[] }:=by
  have hnt:=h.nt
  have sep:=h.at_.sep
  rw[d_ref02_Heap_Forget_eq,b_ref02_Heap_Forget]
  have est:AX.st1 σ i.hb 2 (.slice none 0 0)=some (σ.set i.hb (.cells [.slice i.bs.1 i.bs.2.1 i.bs.2.2,.slice i.os.1 i.os.2.1 i.os.2.2,.slice none 0 0,.int .i64 t.born] ty_dustcartref02_Heap true)):=by simp[AX.st1,h.at_.hp]
  simp only[rMade_g k h,Option.bind_some,toB_bool,Bool.not_true,cond_false,Nat.zero_add,h.at_.ld2,est,h.sim.fl]
  have sep':Sep { i with fs:=(none,0,0) }:=⟨sep.hA,sep.hB,by simp[hs],sep.hD,sep.AB,fun a _ hh=>by simp[hs] at hh,sep.AD,fun a _ hh=>by simp[hs] at hh,sep.BD,fun a ha=>by simp[hs] at ha,sep.D⟩
  have hl:∀ j ∈ RI.l { i with fs:=(none,0,0) },j ∈ i.l:=by
    intro j hj
    rcases RI.mem_l.1 hj with hj | hj | hj | hj | hj
    · exact RI.mem_l.2 (.inl hj)
    · exact RI.mem_l.2 (.inr (.inl hj))
    · exact RI.mem_l.2 (.inr (.inr (.inl hj)))
    · simp[hs] at hj
    · exact RI.mem_l.2 (.inr (.inr (.inr (.inr hj))))
  refine ⟨_,{ i with fs:=(none,0,0) },{ t with fw:=[] },rfl,RAt.newHp (i:={ i with fs:=(none,0,0) }) (t:={ t with fw:=[] }) h.at_.bl h.at_.ob (.inl (SlAt.nil _ _ _)) h.at_.ol h.at_.inn sep' (fun j hj=>h.at_.lt j (hl j hj)),h.sim.forget,hP,⟨by simp,fun j hj hn=>?_,fun j hj=>.inl (hl j hj),rfl⟩⟩
  exact List.getElem?_set_ne (fun e:i.hb=j=>hn (by rw[← e]; exact i.hb_mem))
end
section
open Go Go.AX
noncomputable local instance qSA:Quiet:=fullQuiet
local instance nSA:Kn:=⟨true⟩
variable {σ:AMem} {m:HM} {t:RM} {i:RI}
theorem RAt.setBorn (h:RAt σ i t) (v:Int):∃ c,AX.st1 σ i.hb 3 (.int .i64 v)=some (σ.set i.hb c)∧RAt (σ.set i.hb c) i { t with born:=v }:=
  ⟨_,by simp only[AX.st1,h.hp]; rfl,RAt.newHp (t:={ t with born:=v }) h.bl h.ob h.fw h.ol h.inn h.sep h.lt⟩
theorem rep_int (n:Nat):rep n [Value.int .i64 0]=inRow (List.replicate n 0):=by
  simp[rep,inRow]
theorem rPlace_to (k:Nat) (hk:5000≤k) (h:RG σ i m t) (hP:PinZ m) (hS:Sh m) (hb:m.births<1000000) (a r d c:Int):
    RGoes (d_ref02_Heap_Place (k+5) (rptr i) a r d c σ) σ i (.tuple #[.int .i64 (placeR m a r d c).1,.int .i64 (placeR m a r d c).2.1]) (placeR m a r d c).2.2:=by
  have hnt:=h.nt
  have hwl:=h.wl
  have hol:=h.ol
  have hbr:=h.inv.brt
  obtain ⟨S,hSS⟩:∃ S,AObj.cells [.int .i64 r,.int .i64 d,.int .i64 c] ty_api_Shape true=S:=⟨_,rfl⟩
  have hg:=h.app [S]
  have hq:(σ++[S])[σ.length]?=some (.cells [.int .i64 r,.int .i64 d,.int .i64 c] ty_api_Shape true):=by rw[← hSS]; simp
  obtain ⟨b0,b1,b2⟩:=box3_ld hq
  obtain ⟨τ1,eV⟩:=ref_Valid_to (k+3) r d c (σ++[S])
  have hg1:=hg.app τ1
  have hq1:(σ++[S]++τ1)[σ.length]?=_:=(List.getElem?_append_left (getElem?_lt hq)).trans hq
  obtain ⟨d0,d1,d2⟩:=box3_ld hq1
  have eM:d_ref02_Heap_Made (k+4) (rptr i) (σ++[S])=_:=rMade_g (k+3) hg
  rw[d_ref02_Heap_Place_eq,b_ref02_Heap_Place]
  simp only[allocK,hSS,eM,Option.bind_some,toB_bool,Bool.not_true,cond_false,Nat.zero_add,Nat.reduceAdd,Nat.add_zero,b0,b1,b2,eV]
  unfold placeR
  cases hv:valid r d c with
  | false=>
    simp only[Bool.not_false,cond_true,Bool.false_eq_true,if_false]
    exact RGoes.same h hP ([S]++τ1) (by rw[← List.append_assoc])
  | true=>
  obtain ⟨τ2,eF⟩:=rfits_to k hk hg1 a (-1) 0 hv (fun o ho=>by
    have:=(h.inv.idn o ho).1
    constructor
    · intro e; omega
    · intro e; omega)
  simp only[Bool.not_true,cond_false,if_true,d0,d1,d2,Option.bind_some,eF,toI_int]
  by_cases hf:fitsM m a (szN (num r d c)) (-1)=0
  rotate_left
  · rw[if_neg hf]
    simp only[bne_iff_ne.2 hf,cond_true]
    exact RGoes.same h hP ([S]++τ1++τ2) (by simp only[← List.append_assoc])
  rw[if_pos hf]
  have hw2:2≤szN (num r d c):=by
    have hv':=hv
    rw[szN_num hv]
    simp[valid] at hv'
    omega
  obtain ⟨j,rfl,hj,hfit,hap⟩:=h.inv.fits hwl (szN_le _) hw2 hf
  rw[show ((2*j:Nat):Int).toNat/2=j from by omega]
  obtain ⟨s1,s2⟩:=h.sim.place h.inv h.inv2 hS hP hv hj (fun o ho=>hap o ho (by omega))
  have hg2:=hg1.app τ2
  obtain ⟨C,eS,h4⟩:=hg2.at_.setBorn (t.born+1)
  have hq2:(σ++[S]++τ1++τ2)[σ.length]?=_:=(List.getElem?_append_left (getElem?_lt hq1)).trans hq1
  have hhb:i.hb<σ.length:=h.at_.lt _ i.hb_mem
  have hq3:((σ++[S]++τ1++τ2).set i.hb C)[σ.length]?=_:=(List.getElem?_set_ne (show i.hb≠σ.length by omega)).trans hq2
  have hlen:((σ++[S]++τ1++τ2).set i.hb C).length=σ.length+1+τ1.length+τ2.length:=by simp; omega
  have hs4:∀ x,x<σ.length→x≠i.hb→((σ++[S]++τ1++τ2).set i.hb C)[x]?=σ[x]?:=fun x hx hne=>by
    rw[List.getElem?_set_ne (Ne.symm hne),List.append_assoc,List.append_assoc,List.getElem?_append_left hx]
  have ld3':=hg2.at_.ld3
  generalize (σ++[S]++τ1++τ2).set i.hb C=μ at h4 eS hq3 hlen hs4
  obtain ⟨c0,c1,c2⟩:=box3_ld hq3
  have hv':=hv
  simp[valid] at hv'
  obtain ⟨rn,rfl⟩:∃ n:Nat,r=(n:Int):=⟨r.toNat,by omega⟩
  obtain ⟨dn,rfl⟩:∃ n:Nat,d=(n:Int):=⟨d.toNat,by omega⟩
  have w:w64 (t.born+1)=t.born+1:=w64_in (by rw[h.sim.born]; unfold inI; omega)
  have qr:(0≤(rn:Int)∧(rn:Int)≤(rn:Int)∧(rn:Int)*((8:Nat):Int)≤2 ^ 40∧(rn:Int)≤2 ^ 40)=True:=eq_true (by omega)
  have qd:(0≤(dn:Int)∧(dn:Int)≤(dn:Int)∧(dn:Int)*((8:Nat):Int)≤2 ^ 40∧(dn:Int)≤2 ^ 40)=True:=eq_true (by omega)
  obtain ⟨A,hA⟩:∃ A,AObj.cells (inRow (List.replicate rn 0)) ty_int true=A:=⟨_,rfl⟩
  obtain ⟨D,hD⟩:∃ D,AObj.cells (inRow (List.replicate dn 0)) ty_int true=D:=⟨_,rfl⟩
  have hq5:(μ++[A])[σ.length]?=_:=(List.getElem?_append_left (getElem?_lt hq3)).trans hq3
  obtain ⟨_,f1,_⟩:=box3_ld hq5
  have h6:RAt (μ++[A]++[D]) i { t with born:=t.born+1 }:=(h4.app [A]).app [D]
  have gA:(μ++[A]++[D])[μ.length]?=some (.cells (inRow (List.replicate rn 0)) ty_int true):=by rw[hA]; simp
  have gD:(μ++[A]++[D])[(μ++[A]).length]?=some (.cells (inRow (List.replicate dn 0)) ty_int true):=by rw[hD]; simp
  have ltl:∀ x ∈ i.l,x<σ.length:=h.at_.lt
  obtain ⟨σ',os',eP,hR,hsame,hle,hnew,hin⟩:=rput_to (k+3) (by omega) h6 (by show t.ob.length≤4900; omega) ⟨((2*j:Nat):Int),t.born+1,(rn:Int),(dn:Int),c,List.replicate rn 0,List.replicate dn 0,false⟩ ((some ⟨μ.length,0,none⟩,rn,rn),(some ⟨(μ++[A]).length,0,none⟩,dn,dn))
    ⟨by simp,fun _=>⟨μ.length,rn,by simp,gA⟩,fun a ha=>by cases ha; exact ⟨_,_,_,gA,Nat.zero_le _⟩⟩ ⟨by simp,fun _=>⟨(μ++[A]).length,dn,by simp,gD⟩,fun a ha=>by cases ha; exact ⟨_,_,_,gD,Nat.zero_le _⟩⟩
    (by
      intro x hx
      have:x=μ.length∨x=(μ++[A]).length:=by
        rcases hx with hx | hx
        · obtain ⟨q,e,rfl⟩:=mem_hs.1 hx
          cases e; exact .inl rfl
        · obtain ⟨q,e,rfl⟩:=mem_hs.1 hx
          cases e; exact .inr rfl
      refine ⟨?_,fun hm=>?_⟩
      · have hl:(μ++[A]).length=μ.length+1:=by simp
        have hl2:(μ++[A]++[D]).length=μ.length+2:=by simp
        rcases this with e | e <;> omega
      · have:=ltl x hm
        have hl:(μ++[A]).length=μ.length+1:=by simp
        rcases ‹x=μ.length∨x=(μ++[A]).length› with e | e <;> omega)
    (by simp[hs])
  have eP':d_ref02_Heap_put (k+4) (rptr i) ((2*j:Nat):Int) (t.born+1) (rn:Int) (dn:Int) c (some ⟨μ.length,0,none⟩,rn,rn) (some ⟨(μ++[A]).length,0,none⟩,dn,dn) false (μ++[A]++[D])=some (.tuple #[],σ'):=eP
  refine ⟨σ',_,_, ?_,hR,s1,s2,⟨by simp at hle; omega,fun x hx hn=>?_,fun x hx=>?_,rfl⟩⟩
  · simp only[bne_self_eq_false,hf,cond_false,ld3',Option.bind_some,w,eS,h4.ld3,c0,c1,c2,qr,if_true,Int.toNat_natCast,rep_int,hA,f1,qd,hD,eP',r_0_eq]
    have:=hR.ld3
    simp only at this
    rw[this,h.sim.born]
    rfl
  · have hne:x≠i.hb:=fun e=>hn (by rw[e]; exact i.hb_mem)
    rw[hsame x (by simp; omega) hne,List.append_assoc,List.getElem?_append_left (by omega),hs4 x hx hne]
  · rcases hin x hx with e | e | e | e
    · exact .inl e
    · obtain ⟨q,e',rfl⟩:=mem_hs.1 e
      cases e'
      exact .inr (by show σ.length≤μ.length; omega)
    · obtain ⟨q,e',rfl⟩:=mem_hs.1 e
      cases e'
      exact .inr (by show σ.length≤(μ++[A]).length; simp; omega)
    · exact .inr (by simp at e; omega)
end
section
open Go Go.AX
noncomputable local instance qSB:Quiet:=fullQuiet
local instance nSB:Kn:=⟨true⟩
variable {σ:AMem} {m:HM} {t:RM} {i:RI}
theorem szMv:szOf P ty_api_Move=some 2:=by kernel_rfl
theorem byMv:bytesOf P ty_api_Move=some 16:=by kernel_rfl
theorem zzMv:zerosOf P ty_api_Move=some (.agg #[.int .i64 0,.int .i64 0]):=by kernel_rfl
theorem blRow_apps:∀ l l':List (Int × Int),blRow (l++l')=blRow l++blRow l'
  | [],l'=>rfl
  | e::l,l'=>by simp only[List.cons_append,blRow,blRow_apps l l']
theorem rMove_l0_to (k:Nat) (h:RAt σ i t) (hl:t.fw.length≤100000) (a:Int):∀ (n x f:Nat) (τ:AMem) (o:SlV) (L:List (Int × Int)),SlAt ty_api_Move 2 (σ++τ) o L.length (blRow L)→(∀ q,o.1=some q→σ.length≤q.block)→L.length≤x→x+n=t.fw.length→n<f →
    ∃ τ' o',d_ref02_Heap_Move_l0 k f (rptr i) a (o.1,o.2.1,o.2.2) (x:Int) (σ++τ)=some (.exit 0,[.slice o'.1 o'.2.1 o'.2.2],σ++τ')∧SlAt ty_api_Move 2 (σ++τ') o' (L++(t.fw.drop x).filter fun e=>e.1 != a).length (blRow (L++(t.fw.drop x).filter fun e=>e.1 != a))∧(∀ q,o'.1=some q→σ.length≤q.block)
  | 0,x,0,τ,o,L,hs,hb,hx,hn,hf=>by omega
  | 0,x,f+1,τ,o,L,hs,hb,hx,hn,hf=>by
    rw[d_ref02_Heap_Move_l0_eq,b_ref02_Heap_Move_l0,List.drop_eq_nil_of_le (by omega),List.filter_nil,List.append_nil]
    exact ⟨τ,o,by simp only[Option.bind_some,Nat.zero_add,(h.app τ).ld2,decide_eq_false (show ¬ (x:Int)<((t.fw.length:Nat):Int) by omega),cond_false],hs,hb⟩
  | n+1,x,0,τ,o,L,hs,hb,hx,hn,hf=>by omega
  | n+1,x,f+1,τ,o,L,hs,hb,hx,hn,hf=>by
    have hg:=h.app τ
    have hxl:x<t.fw.length:=by omega
    obtain ⟨q,e,l0,l1,hc⟩:=pair_ld (hg.fw.sl hxl) hxl
    have eg:t.fw.getD x (0,0)=t.fw[x]:=by rw[List.getD_eq_getElem?_getD,List.getElem?_eq_getElem hxl]; rfl
    rw[eg] at l0 l1
    have qx:(0≤(x:Int)∧(x:Int)<((t.fw.length:Nat):Int))=True:=eq_true (by omega)
    have w1:w64 ((x:Int)+1)=((x+1:Nat):Int):=w64_in (by unfold inI; omega)
    rw[d_ref02_Heap_Move_l0_eq,b_ref02_Heap_Move_l0,List.drop_eq_getElem_cons hxl,List.filter_cons]
    by_cases g:t.fw[x].1=a
    · obtain ⟨τ',o',e2,s2,b2⟩:=rMove_l0_to k h hl a n (x+1) f τ o L hs hb (by omega) (by omega) (by omega)
      have gb:(t.fw[x].1 != a)=false:=by rw[g]; exact bne_self_eq_false _
      rw[gb]
      refine ⟨τ',o', ?_,s2,b2⟩
      simp only[Option.bind_some,Nat.zero_add,Nat.add_zero,hg.ld2,decide_eq_true (show (x:Int)<((t.fw.length:Nat):Int) by omega),cond_true,qx,if_true,e,Int.toNat_natCast,l0,gb,cond_false,u_l_eq,w1]
      exact e2
    · have gb:(t.fw[x].1 != a)=true:=bne_iff_ne.2 g
      obtain ⟨o1,τ1,ea,s1,b1⟩:=push_behind szMv byMv zzMv rfl rfl (by decide) (by decide) (by decide) σ τ o L.length (blRow L) 1 1 (blRow [t.fw[x]]) ty_api_Move (by omega) (by decide) rfl hs hb
      have ea':appendD P ty_api_Move (o.1,o.2.1,o.2.2) (some ⟨(σ++τ).length,0,none⟩,1,1) (σ++τ++[AObj.cells [.int .i64 t.fw[x].1,.int .i64 t.fw[x].2] ty_api_Move true])=some (o1,σ++τ1):=ea
      obtain ⟨τ',o',e2,s2,b2⟩:=rMove_l0_to k h hl a n (x+1) f τ1 o1 (L++[t.fw[x]]) (by rw[blRow_apps,List.length_append]; exact s1) b1 (by rw[List.length_append]; show L.length+1≤x+1; omega) (by omega) (by omega)
      rw[gb]
      simp only[if_true]
      rw[List.append_assoc] at s2
      refine ⟨τ',o', ?_,s2,b2⟩
      simp only[Option.bind_some,Nat.zero_add,Nat.add_zero,hg.ld2,decide_eq_true (show (x:Int)<((t.fw.length:Nat):Int) by omega),cond_true,qx,if_true,e,Int.toNat_natCast,l0,l1,gb,allocK,ea',u_l_eq,w1]
      exact e2
theorem RAt.newFs (h:RAt σ i t) (τ:AMem) (fs':SlV) (fw':List (Int × Int)) (hsl:SlAt ty_api_Move 2 (σ++τ) fs' fw'.length (blRow fw')) (hb:∀ a,fs'.1=some a→σ.length≤a.block):
    ∃ σ',AX.st1 (σ++τ) i.hb 2 (.slice fs'.1 fs'.2.1 fs'.2.2)=some σ'∧RAt σ' { i with fs:=fs' } { t with fw:=fw' }∧(∀ j,j<σ.length→j≠i.hb→σ'[j]?=σ[j]?)∧σ.length≤σ'.length∧(∀ j,j ∈ RI.l { i with fs:=fs' }→j ∈ i.l∨σ.length≤j):=by
  have sep:=h.sep
  have hg:=h.app τ
  have hlt:=h.lt
  have hB:∀ j ∈ hs fs',σ.length≤j:=fun j hj=>mem_hs_lt hb hj
  have mA:∀ j ∈ hs i.bs,j<σ.length:=fun j hj=>hlt _ (RI.mem_l.2 (.inr (.inl hj)))
  have mB:∀ j ∈ hs i.os,j<σ.length:=fun j hj=>hlt _ (RI.mem_l.2 (.inr (.inr (.inl hj))))
  have mD:∀ j ∈ omL i.om,j<σ.length:=fun j hj=>hlt _ (RI.mem_l.2 (.inr (.inr (.inr (.inr hj)))))
  have mh:=hlt _ i.hb_mem
  have sep':Sep { i with fs:=fs' }:=
    { hA:=sep.hA,hB:=sep.hB,hC:=fun hh=>Nat.not_lt.2 (hB _ hh) mh,hD:=sep.hD,AB:=sep.AB,AC:=fun a ha hh=>by have:=hB _ hh; have:=mA _ ha; omega,AD:=sep.AD,
      BC:=fun a ha hh=>by have:=hB _ hh; have:=mB _ ha; omega,BD:=sep.BD,CD:=fun a ha hh=>by have:=hB _ ha; have:=mD _ hh; omega,D:=sep.D }
  refine ⟨_,by simp only[AX.st1,hg.hp]; rfl,RAt.newHp (i:={ i with fs:=fs' }) (t:={ t with fw:=fw' }) hg.bl hg.ob (.inl hsl) hg.ol hg.inn sep' (fun j hj=>?_),fun j hj hne=>?_,by simp,fun j hj=>?_⟩
  · rcases RI.mem_l.1 hj with hj | hj | hj | hj | hj
    · have hj':j=i.hb:=hj
      rw[hj',List.length_append]; omega
    · have:=mA _ hj; simp; omega
    · have:=mB _ hj; simp; omega
    · obtain ⟨a,ha,rfl⟩:=mem_hs.1 hj; exact hsl.lt a ha
    · have:=mD _ hj; simp; omega
  · rw[List.getElem?_set_ne (Ne.symm hne),List.getElem?_append_left hj]
  · rcases RI.mem_l.1 hj with hj | hj | hj | hj | hj
    · exact .inl (by rw[hj]; exact i.hb_mem)
    · exact .inl (RI.mem_l.2 (.inr (.inl hj)))
    · exact .inl (RI.mem_l.2 (.inr (.inr (.inl hj))))
    · exact .inr (hB _ hj)
    · exact .inl (RI.mem_l.2 (.inr (.inr (.inr (.inr hj)))))
theorem om_cut {om:List (SlV × SlV)} (h:(omL om).Nodup) {y:Nat} (hy:y<om.length) {j:Nat} (hj:j ∈ hs om[y].1∨j ∈ hs om[y].2):j ∉ omL (om.eraseIdx y):=by
  intro hm
  rw[omL_split om y,List.drop_eq_getElem_cons hy,omL_cons] at h
  rw[List.eraseIdx_eq_take_drop_succ,omL_app] at hm
  obtain ⟨_,h2,h3⟩:=List.nodup_append.1 h
  obtain ⟨_,_,h5⟩:=List.nodup_append.1 h2
  rcases List.mem_append.1 hm with hm | hm
  · exact h3 j hm j (List.mem_append.2 (.inl (List.mem_append.2 hj))) rfl
  · exact h5 j (List.mem_append.2 hj) j hm rfl
theorem rMove_to (k:Nat) (hk:5000≤k) (h:RG σ i m t) (hP:PinZ m) (hS:Sh m) (hfw:m.fw.length≤4000) (a b:Int):RGoes (d_ref02_Heap_Move (k+5) (rptr i) a b σ) σ i (.int .i64 (moveR m a b).1) (moveR m a b).2:=by
  have hol:=h.ol
  have hfl:t.fw.length≤4000:=by rw[h.sim.fl]; exact hfw
  rw[d_ref02_Heap_Move_eq,b_ref02_Heap_Move]
  have hix:d_ref02_Heap_Index (k+4) (rptr i) a σ=_:=rIndex_g (k+2) (by omega) h a
  have hla:d_ref02_Heap_lacks (k+4) (rptr i) a σ=_:=rlacks_g (k+1) (by omega) h a
  simp only[hla,Option.bind_some,toI_int]
  unfold moveR
  cases hh:hasM m a with
  | false=>
    simp only[Bool.false_eq_true,if_false,ne4,cond_true]
    exact RGoes.same0 h hP rfl
  | true=>
  obtain ⟨y,j,q,p,F⟩:=h.found hh
  have hy:=F.xl
  have hy':y<i.om.length:=by rw[h.at_.ol]; exact hy
  have ep:i.om[y]=p:=by have:=F.om; rw[List.getElem?_eq_getElem hy'] at this; exact Option.some.inj this
  have hae:=F.e
  subst hae
  have ea:((2*j:Nat):Int).toNat/2=j:=by omega
  have sep:=h.at_.sep
  have qy:(0≤(y:Int)∧(y:Int)<((t.ob.length:Nat):Int))=True:=eq_true (by omega)
  obtain ⟨B,hB⟩:∃ B,AObj.cells (roCells (roOf m j) p) ty_dustcartref02_Object true=B:=⟨_,rfl⟩
  have st:stN (σ++[AObj.cells [.int .i64 0,.int .i64 0,.int .i64 0,.int .i64 0,.int .i64 0,.slice none 0 0,.slice none 0 0,.bool false] ty_dustcartref02_Object true]) σ.length 0 [.int .i64 (roOf m j).addr,.int .i64 (roOf m j).id,.int .i64 (roOf m j).r,.int .i64 (roOf m j).d,.int .i64 (roOf m j).k,.slice p.1.1 p.1.2.1 p.1.2.2,.slice p.2.1 p.2.2.1 p.2.2.2,.bool (roOf m j).pin]=some (σ++[B]):=by
    rw[stN_box8,← hB]; rfl
  have lb:∀ (o:Nat),ldI .i64 (σ++[B]) σ.length o=((roCells (roOf m j) p)[o]?).bind (toI .i64):=fun o=>by rw[← hB]; simp[ldI,ld1]
  have c1:((roCells (roOf m j) p)[1]?).bind (toI .i64)=some (roOf m j).id:=rfl
  have c2:((roCells (roOf m j) p)[2]?).bind (toI .i64)=some (refsAt m j):=rfl
  have c3:((roCells (roOf m j) p)[3]?).bind (toI .i64)=some (dataAt m j):=rfl
  have c4:((roCells (roOf m j) p)[4]?).bind (toI .i64)=some (kindAt m j):=rfl
  obtain ⟨r,d,c,hv,hn⟩:=h.inv.good j F.st
  obtain ⟨p1,p2,p3,_⟩:=num_parts hv
  have e1:refsAt m j=r:=by unfold refsAt; rw[hn,p1]
  have e2:dataAt m j=d:=by unfold dataAt; rw[hn,p2]
  have e3:kindAt m j=c:=by unfold kindAt; rw[hn,p3]
  have esz:sz m j=szN (num r d c):=by unfold sz; rw[hn]
  have hg:=h.app [B]
  have hid:∀ o,Start m o→(((2*o:Nat):Int)=((2*j:Nat):Int)↔m.wds.getD (2*o) 0=m.wds.getD (2*j) 0):=by
    intro o ho
    constructor
    · intro e
      rw[show o=j from by omega]
    · intro e
      have g1:=(h.inv.idn o ho).2.2
      have g2:=(h.inv.idn j F.st).2.2
      rw[e,g2] at g1
      exact (Option.some.inj g1).symm
  obtain ⟨τ,eF⟩:=rfits_to k hk hg b ((2*j:Nat):Int) (m.wds.getD (2*j) 0) hv hid
  have eF':d_ref02_Heap_fits (k+4) (rptr i) b (refsAt m j) (dataAt m j) (kindAt m j) (roOf m j).id (σ++[B])=some (.int .i64 (fitsM m b (sz m j) ((2*j:Nat):Int)),σ++[B]++τ):=by rw[e1,e2,e3,esz]; exact eF
  rw[ea]
  simp only[if_true,bne_self_eq_false,cond_false,hix,Option.bind_some,toI_int,F.idx,Nat.zero_add,Nat.add_zero,Nat.add_assoc,Nat.reduceAdd,h.at_.ld1',qy,F.os,Int.toNat_natCast,F.ld.l0,F.ld.l1,F.ld.l2,F.ld.l3,F.ld.l4,F.ld.l5,F.ld.l6,F.ld.l7,allocK,st,lb,c1,c2,c3,c4,eF']
  by_cases hf:fitsM m b (sz m j) ((2*j:Nat):Int)=0
  rotate_left
  · rw[if_neg hf]
    simp only[bne_iff_ne.2 hf,cond_true]
    exact RGoes.same h hP ([B]++τ) (by rw[← List.append_assoc])
  rw[if_pos hf]
  obtain ⟨u,rfl,hu,hfit,hap,_⟩:=moveR_ok h.inv hS F.st hf
  rw[show ((2*u:Nat):Int).toNat/2=u from by omega]
  obtain ⟨s1,s2⟩:=h.sim.move h.inv hS hP F.st F.all hu hfit hap
  have hg2:=hg.app τ
  obtain ⟨σ3,os3,eC,h3,k3,b3,same3⟩:=rcut_to (k+3) hg2.at_ (by omega) hy
  have ltl:∀ x ∈ i.l,x<σ.length:=h.at_.lt
  have hhb:i.hb<σ.length:=ltl _ i.hb_mem
  have hl2:(σ++[B]++τ).length=σ.length+1+τ.length:=by simp; omega
  have len3:=k3.len
  have box3:σ3[σ.length]?=some (.cells (roCells (roOf m j) p) ty_dustcartref02_Object true):=by
    rw[same3 σ.length (by omega) (by omega),hB,List.append_assoc,List.getElem?_append_right (Nat.le_refl _)]
    simp
  obtain ⟨σ4,hσ4⟩:∃ σ4,σ3.set σ.length (.cells (roCells { roOf m j with addr:=((2*u:Nat):Int) } p) ty_dustcartref02_Object true)=σ4:=⟨_,rfl⟩
  have st4:AX.st1 σ3 σ.length 0 (.int .i64 ((2*u:Nat):Int))=some σ4:=by
    rw[← hσ4]; simp[AX.st1,box3,roCells]
  have len4:σ4.length=σ3.length:=by rw[← hσ4]; simp
  have same4:∀ x,x≠σ.length→σ4[x]?=σ3[x]?:=fun x hx=>by rw[← hσ4,List.getElem?_set_ne (Ne.symm hx)]
  have box4:σ4[σ.length]?=some (.cells (roCells { roOf m j with addr:=((2*u:Nat):Int) } p) ty_dustcartref02_Object true):=by
    rw[← hσ4,List.getElem?_set_self (getElem?_lt box3)]
  have lI4:∀ (o:Nat),ldI .i64 σ4 σ.length o=((roCells { roOf m j with addr:=((2*u:Nat):Int) } p)[o]?).bind (toI .i64):=fun o=>by simp only[ldI,ld1,box4]
  have lS4:∀ (o:Nat),ldS σ4 σ.length o=((roCells { roOf m j with addr:=((2*u:Nat):Int) } p)[o]?).bind toS:=fun o=>by simp only[ldS,ld1,box4]
  have lB4:∀ (o:Nat),ldB σ4 σ.length o=((roCells { roOf m j with addr:=((2*u:Nat):Int) } p)[o]?).bind toB:=fun o=>by simp only[ldB,ld1,box4]
  have new3:∀ x,x ∈ RI.l { i with os:=os3,om:=i.om.eraseIdx y }→x ∈ i.l∨σ.length+1+τ.length≤x:=fun x hx=>by
    rcases k3.new x hx with e | e
    · exact .inl e
    · exact .inr (by omega)
  have h4:=h3.like (σ':=σ4) (fun x hx=>same4 x (fun e=>by
    rcases new3 x hx with e' | e'
    · have:=ltl x e'; omega
    · omega)) (by omega)
  have pin_:∀ x,x ∈ hs p.1∨x ∈ hs p.2→x ∈ omL i.om:=fun x hx=>om_mem hy' (by rw[ep]; exact hx)
  have plt:∀ x,x ∈ hs p.1∨x ∈ hs p.2→x<σ.length:=fun x hx=>ltl x (RI.mem_l.2 (.inr (.inr (.inr (.inr (pin_ x hx))))))
  have psame:∀ x,x ∈ hs p.1∨x ∈ hs p.2→σ4[x]?=σ[x]?:=fun x hx=>by
    have hlt:=plt x hx
    rw[same4 x (by omega),same3 x (by omega) (fun e=>sep.hD (by rw[← e]; exact pin_ x hx)),List.append_assoc,List.getElem?_append_left hlt]
  obtain ⟨nd1,_⟩:=List.pairwise_flatMap.1 sep.D
  obtain ⟨σ5,os5,eP,h5,same5,len5,b5,new5⟩:=rput_to (k+3) (by omega) h4 (by show (t.ob.eraseIdx y).length≤4900; have:=List.length_eraseIdx_of_lt hy; omega) { roOf m j with addr:=((2*u:Nat):Int) } p
    (F.rs.like fun x hx=>psame x (.inl hx)) (F.ds.like fun x hx=>psame x (.inr hx))
    (fun x hx=>⟨by have:=plt x hx; omega,fun hm=>by
      have hlt:=plt x hx
      rcases RI.mem_l.1 hm with e | e | e | e | e
      · exact sep.hD (by rw[← show x=i.hb from e]; exact pin_ x hx)
      · exact sep.AD x e (pin_ x hx)
      · have:=mem_hs_lt b3 e; omega
      · exact sep.CD x e (pin_ x hx)
      · exact om_cut sep.D hy' (by rw[ep]; exact hx) e⟩)
    (by rw[← ep]; exact nd1 _ (List.getElem_mem hy'))
  obtain ⟨τ6,o6,e6,s6,b6⟩:=rMove_l0_to (k+4) h5 (show t.fw.length≤100000 by omega) ((2*j:Nat):Int) t.fw.length 0 (k+4) [] (none,0,0) [] (SlAt.nil _ _ _) (by intro q hq; cases hq) (Nat.zero_le _) (by show 0+t.fw.length=t.fw.length; omega) (by omega)
  rw[List.append_nil,List.nil_append] at *
  have e6':d_ref02_Heap_Move_l0 (k+4) (k+4) (rptr i) ((2*j:Nat):Int) (none,0,0) 0 σ5=_:=e6
  have s6':SlAt ty_api_Move 2 (σ5++τ6) o6 (t.fw.filter fun e=>e.1 != ((2*j:Nat):Int)).length (blRow (t.fw.filter fun e=>e.1 != ((2*j:Nat):Int))):=s6
  have fl:(t.fw.filter fun e=>e.1 != ((2*j:Nat):Int)).length≤t.fw.length:=List.length_filter_le _ _
  obtain ⟨o7,τ7,ea7,s7,b7⟩:=push_behind szMv byMv zzMv rfl rfl (by decide) (by decide) (by decide) σ5 τ6 o6 _ _ 1 1 (blRow [(((2*j:Nat):Int),((2*u:Nat):Int))]) ty_api_Move (by omega) (by decide) rfl s6' b6
  have ea7':appendD P ty_api_Move (o6.1,o6.2.1,o6.2.2) (some ⟨(σ5++τ6).length,0,none⟩,1,1) (σ5++τ6++[AObj.cells [.int .i64 ((2*j:Nat):Int),.int .i64 ((2*u:Nat):Int)] ty_api_Move true])=some (o7,σ5++τ7):=ea7
  obtain ⟨σ8,e8,h8,same8,len8,new8⟩:=h5.newFs τ7 o7 (rFwd t.fw ((2*j:Nat):Int) ((2*u:Nat):Int)) (by unfold rFwd; rw[blRow_apps,List.length_append]; exact s7) b7
  have e8':AX.st1 (σ5++τ7) i.hb 2 (.slice o7.1 o7.2.1 o7.2.2)=some σ8:=e8
  have eC':d_ref02_Heap_cut (k+4) (rptr i) (y:Int) (σ++[B]++τ)=some (.tuple #[],σ3):=eC
  have eP':d_ref02_Heap_put (k+4) (rptr i) ((2*u:Nat):Int) (roOf m j).id (roOf m j).r (roOf m j).d (roOf m j).k p.1 p.2 (roOf m j).pin σ4=some (.tuple #[],σ5):=eP
  have g0:((roCells { roOf m j with addr:=((2*u:Nat):Int) } p)[0]?).bind (toI .i64)=some ((2*u:Nat):Int):=rfl
  have g1:((roCells { roOf m j with addr:=((2*u:Nat):Int) } p)[1]?).bind (toI .i64)=some (roOf m j).id:=rfl
  have g2:((roCells { roOf m j with addr:=((2*u:Nat):Int) } p)[2]?).bind (toI .i64)=some (roOf m j).r:=rfl
  have g3:((roCells { roOf m j with addr:=((2*u:Nat):Int) } p)[3]?).bind (toI .i64)=some (roOf m j).d:=rfl
  have g4:((roCells { roOf m j with addr:=((2*u:Nat):Int) } p)[4]?).bind (toI .i64)=some (roOf m j).k:=rfl
  have g5:((roCells { roOf m j with addr:=((2*u:Nat):Int) } p)[5]?).bind toS=some (p.1.1,p.1.2.1,p.1.2.2):=rfl
  have g6:((roCells { roOf m j with addr:=((2*u:Nat):Int) } p)[6]?).bind toS=some (p.2.1,p.2.2.1,p.2.2.2):=rfl
  have g7:((roCells { roOf m j with addr:=((2*u:Nat):Int) } p)[7]?).bind toB=some (roOf m j).pin:=rfl
  refine ⟨σ8,_,_, ?_,h8,s1,s2,⟨by omega,fun x hx hn=>?_,fun x hx=>?_,rfl⟩⟩
  · simp only[hf,bne_self_eq_false,cond_false,eC',Option.bind_some,r_0_eq,st4,lI4,lS4,lB4,g0,g1,g2,g3,g4,g5,g6,g7,eP',e6',if_true,u_l_eq,allocK,ea7',e8']
  · have hne:x≠i.hb:=fun e=>hn (by rw[e]; exact i.hb_mem)
    rw[same8 x (by omega) hne,same5 x (by omega) hne,same4 x (by omega),same3 x (by omega) hne,List.append_assoc,List.getElem?_append_left hx]
  · rcases new8 x hx with e | e
    · rcases new5 x e with e | e | e | e
      · rcases new3 x e with e | e
        · exact .inl e
        · exact .inr (by omega)
      · exact .inl (RI.mem_l.2 (.inr (.inr (.inr (.inr (pin_ x (.inl e)))))))
      · exact .inl (RI.mem_l.2 (.inr (.inr (.inr (.inr (pin_ x (.inr e)))))))
      · exact .inr (by omega)
    · exact .inr (by omega)
end
section
open Go Go.AX
noncomputable local instance qSC:Quiet:=fullQuiet
local instance nSC:Kn:=⟨true⟩
variable {σ:AMem} {m:HM} {t:RM} {i:RI}
theorem newM_none (n j:Nat):¬ Start (newM n) j:=by
  rintro ⟨_,h⟩
  have:tget 1 (newM n).stw j=0:=tget_zeros _ _ _
  omega
theorem Sim.new (n:Nat):Sim (newM n) ⟨List.replicate n (0,0),[],[],0⟩:=by
  refine ⟨rfl, ?_,rfl,fun a=>rfl,rfl,trivial,trivial⟩
  have:allS (newM n)=[]:=by
    cases h:allS (newM n) with
    | nil=>rfl
    | cons j l=>exact absurd (mem_allS.1 (by rw[h]; exact List.mem_cons_self)) (newM_none n j)
  show []=robs (newM n)
  unfold robs
  rw[this]; rfl
theorem PinZ.new (n:Nat):PinZ (newM n):=fun j _ _=>tget_zeros _ _ _
theorem FZ.new (n:Nat):FZ (newM n):=by
  intro c _
  show ((List.replicate n ((0:Int),(0:Int))).getD c (0,0)).2=0
  rw[List.getD_eq_getElem?_getD,List.getElem?_replicate]
  split <;> rfl
theorem rNew_bad (k:Nat) (b:Int) (hb:¬ (2≤b∧b≤64)) (σ:AMem):d_ref02_New (k+1) b σ=some (.tuple #[.pointer none,.int .i64 1],σ):=by
  rw[d_ref02_New_eq,b_ref02_New]
  by_cases h0:b<2
  · simp only[decide_eq_true h0,cond_true,Option.bind_some]
  · simp only[decide_eq_false h0,cond_false,Option.bind_some,show decide (b>64)=true from decide_eq_true (by omega),cond_true]
theorem rNew_to (k:Nat) {n:Nat} (h2:2≤n) (h64:n≤64) (σ:AMem):∃ τ i,d_ref02_New (k+1) (n:Int) σ=some (.tuple #[.pointer (rptr i),.int .i64 0],σ++τ)∧RAt (σ++τ) i ⟨List.replicate n (0,0),[],[],0⟩ ∧ ∀ j ∈ i.l,σ.length≤j:=by
  rw[d_ref02_New_eq,b_ref02_New]
  simp only[show decide ((n:Int)<2)=false from decide_eq_false (by omega),cond_false,show decide ((n:Int)>64)=false from decide_eq_false (by omega),Option.bind_some,allocK]
  rw[if_pos (by omega)]
  simp only[Int.toNat_natCast,rep_blk]
  obtain ⟨A,hA⟩:∃ A,AObj.cells (blRow (List.replicate n (0,0))) ty_dustcartref02_Block true=A:=⟨_,rfl⟩
  rw[hA]
  refine ⟨[A]++[AObj.cells [.slice (some ⟨σ.length,0,none⟩) n n,.slice none 0 0,.slice none 0 0,.int .i64 0] ty_dustcartref02_Heap true],⟨(σ++[A]).length,(some ⟨σ.length,0,none⟩,n,n),(none,0,0),(none,0,0),[]⟩,by rw[List.append_assoc], ?_, ?_⟩
  · rw[← List.append_assoc]
    refine { hp:=by simp,bl:=.inr ⟨σ.length,by simp,Nat.zero_le _,by rw[blRow_length]; omega,by rw[List.getElem?_append_left (by simp),← hA]; simp⟩,ob:=.inl ⟨rfl,rfl,rfl⟩,fw:=.inl (.inl ⟨rfl,rfl,rfl⟩),ol:=rfl,inn:=fun x h=>by simp at h,nd:=?_,lt:=?_ }
    · simp[RI.l,hs]
    · intro j hj
      simp[RI.l,hs] at hj
      simp
      omega
  · intro j hj
    simp[RI.l,hs] at hj
    omega
theorem append_copy {E:TypeId} {s by_:Nat} {z:Value} (hs:szOf P E=some s) (hb:bytesOf P E=some by_) (hz:zerosOf P E=some z) (hz1:isTup z=false) (hz2:z.cells.size=s) (hs0:0<s) (hb0:0<by_) (hb1:by_≤1000)
    (σ:AMem) (p:Option Addr) (n c:Nat) (hn1:n≤100000) (row:List Value) (hr:row.length=n*s) (hf:firstA (σ++[.cells [] E true]) s p n=some row):
    ∃ s' τ,appendD P E (some ⟨σ.length,0,some 0⟩,0,0) (p,n,c) (σ++[.cells [] E true])=some (s',σ++[.cells [] E true]++τ)∧(0<n→s'=(some ⟨σ.length+1,0,none⟩,n,n)∧(σ++[.cells [] E true]++τ)[σ.length+1]?=some (.cells row E true))∧(n=0→s'=(some ⟨σ.length,0,some 0⟩,0,0)):=by
  by_cases h0:n=0
  · subst h0
    refine ⟨(some ⟨σ.length,0,some 0⟩,0,0),[], ?_,fun h=>absurd h (Nat.lt_irrefl _),fun _=>rfl⟩
    unfold appendD appendA
    have h1:(¬ (isTup z=false∧some s=some z.cells.size∧0<z.cells.size))=False:=by
      rw[hz1,hz2]; simp[hs0]
    simp only[hs,hb,hz,hf,Option.bind_some,h1,if_false,Nat.add_zero,Nat.le_refl,if_true,fixedB,Option.isSome_some,cond_true,slK,List.append_nil]
  · have e:=append_new hs hb hz hz1 hz2 hs0 hb0 hb1 σ p n c (by omega) hn1 row hf
    refine ⟨_,[.cells row E true], ?_,fun _=>⟨rfl, ?_⟩,fun h=>absurd h h0⟩
    · rw[e]; simp
    · rw[List.getElem?_append_right (by simp)]; simp
theorem IntsG.first {s:SlV} {l:List Int} (h:IntsG σ s l):firstA σ 1 s.1 l.length=some (inRow l):=by
  by_cases hl:l=[]
  · subst hl
    cases hs:s.1 with
    | none=>rfl
    | some a=>
      obtain ⟨cs,T,w,h1,h2⟩:=h.2.2 a hs
      simp only[firstA,ldN,h1,List.length_nil,Nat.zero_mul,Nat.add_zero,h2,if_true,List.take_zero]
      rfl
  · obtain ⟨b,c,rfl,hc⟩:=h.2.1 hl
    simp only[firstA,ldN,hc,inRow_length,Nat.zero_add,Nat.mul_one,Nat.le_refl,if_true,List.drop_zero]
    rw[List.take_of_length_le (by rw[inRow_length]; exact Nat.le_refl _)]
theorem SlAt.first {E:TypeId} {s n:Nat} {sl:SlV} {row:List Value} (h:SlAt E s σ sl n row):firstA σ s sl.1 n=some row:=by
  rcases h with ⟨rfl,rfl,rfl⟩ | ⟨b,rfl,_,hl,hc⟩
  · rfl
  · simp only[firstA,ldN,hc,hl,Nat.zero_add,Nat.le_refl,if_true,List.drop_zero]
    rw[List.take_of_length_le (Nat.le_of_eq hl)]
theorem ints_copy (σ:AMem) (s:SlV) (l:List Int) (hl:l.length≤100000) (h:IntsG σ s l):
    ∃ s' τ,appendD P ty_int (some ⟨σ.length,0,some 0⟩,0,0) (s.1,s.2.1,s.2.2) (σ++[.cells [] ty_int true])=some (s',σ++[.cells [] ty_int true]++τ)∧IntsG (σ++[.cells [] ty_int true]++τ) s' l∧hs s'≠[] ∧ ∀ j ∈ hs s',j=σ.length∨j=σ.length+1∧j<(σ++[AObj.cells [] ty_int true]++τ).length:=by
  have hf:=(h.app [.cells [] ty_int true]).first
  rw[← h.1] at hf
  obtain ⟨s',τ,e,h1,h2⟩:=append_copy sz3 by3 zz3 rfl rfl (by decide) (by decide) (by decide) σ s.1 s.2.1 s.2.2 (by rw[h.1]; exact hl) (inRow l) (by rw[inRow_length,h.1,Nat.mul_one]) hf
  refine ⟨s',τ,e, ?_, ?_, ?_⟩
  · by_cases h0:s.2.1=0
    · rw[h2 h0]
      have hl0:l=[]:=List.length_eq_zero_iff.1 (by rw[← h.1]; exact h0)
      subst hl0
      exact ⟨rfl,fun hn=>absurd rfl hn,fun a ha=>by cases ha; exact ⟨[],ty_int,true,by rw[List.getElem?_append_left (by simp)]; simp,Nat.le_refl _⟩⟩
    · obtain ⟨q1,q2⟩:=h1 (by omega)
      rw[q1]
      exact ⟨h.1,fun _=>⟨σ.length+1,s.2.1,by rw[h.1],q2⟩,fun a ha=>by cases ha; exact ⟨_,_,_,q2,Nat.zero_le _⟩⟩
  · by_cases h0:s.2.1=0
    · rw[h2 h0]; simp[hs]
    · rw[(h1 (by omega)).1]; simp[hs]
  · intro j hj
    by_cases h0:s.2.1=0
    · rw[h2 h0] at hj; simp[hs] at hj; exact .inl hj
    · obtain ⟨q1,q2⟩:=h1 (by omega)
      rw[q1] at hj; simp only[hs,List.mem_singleton] at hj
      exact .inr ⟨hj,by rw[hj]; exact getElem?_lt q2⟩
theorem rClone_l0_to (k:Nat) {lo:Nat} (hil:∀ j ∈ i.l,j<lo) (hn5:t.ob.length≤4900) (hint:∀ (x:Nat) (h:x<t.ob.length),t.ob[x].refs.length≤1000∧t.ob[x].data.length≤1000):∀ (n x f:Nat) (μ:AMem) (i2:RI),RAt μ i t→RAt μ i2 { t with ob:=t.ob.take x }→(∀ j ∈ i2.l,lo≤j)→x+n=t.ob.length→n<f →
    ∃ μ' i2',d_ref02_Heap_Clone_l0 k f (rptr i) i2.hb (x:Int) μ=some (.exit 0,[],μ')∧RAt μ' i2' t∧i2'.hb=i2.hb∧(∀ j ∈ i2'.l,lo≤j)∧(∀ q,q<lo→μ'[q]?=μ[q]?)∧μ.length≤μ'.length
  | 0,x,0,μ,i2,h,g,h2,hx,hf=>by omega
  | 0,x,f+1,μ,i2,h,g,h2,hx,hf=>by
    rw[d_ref02_Heap_Clone_l0_eq,b_ref02_Heap_Clone_l0]
    have et:t.ob.take x=t.ob:=List.take_of_length_le (by omega)
    rw[et] at g
    exact ⟨μ,i2,by simp only[Option.bind_some,Nat.zero_add,h.ld1',decide_eq_false (show ¬ (x:Int)<((t.ob.length:Nat):Int) by omega),cond_false],g,rfl,h2,fun _ _=>rfl,Nat.le_refl _⟩
  | n+1,x,0,μ,i2,h,g,h2,hx,hf=>by omega
  | n+1,x,f+1,μ,i2,h,g,h2,hx,hf=>by
    have hxl:x<t.ob.length:=by omega
    have hxo:x<i.om.length:=by rw[h.ol]; exact hxl
    obtain ⟨qb,eo,hc,L⟩:=h.obj hxl
    have L:=L hxo
    obtain ⟨n1,n2⟩:=h.inn x hxl hxo
    obtain ⟨z1,z2⟩:=hint x hxl
    obtain ⟨o,ho⟩:∃ o,t.ob[x]=o:=⟨_,rfl⟩
    obtain ⟨p,hp⟩:∃ p,i.om[x]=p:=⟨_,rfl⟩
    rw[ho] at L n1 n2 z1 z2
    rw[hp] at L n1 n2
    have hlo:lo≤μ.length:=by have:=h2 _ i2.hb_mem; have:=g.lt _ i2.hb_mem; omega
    have sep:=g.sep
    have hhb:=g.lt _ i2.hb_mem
    have g2l:∀ j ∈ i2.l,j<μ.length:=g.lt
    have il:∀ j ∈ i.l,j<μ.length:=h.lt
    obtain ⟨μ1,hμ1⟩:∃ μ1,μ++[AObj.cells (roCells o p) ty_dustcartref02_Object true]=μ1:=⟨_,rfl⟩
    have st:stN (μ++[AObj.cells [.int .i64 0,.int .i64 0,.int .i64 0,.int .i64 0,.int .i64 0,.slice none 0 0,.slice none 0 0,.bool false] ty_dustcartref02_Object true]) μ.length 0 [.int .i64 o.addr,.int .i64 o.id,.int .i64 o.r,.int .i64 o.d,.int .i64 o.k,.slice p.1.1 p.1.2.1 p.1.2.2,.slice p.2.1 p.2.2.1 p.2.2.2,.bool o.pin]=some μ1:=by
      rw[stN_box8,← hμ1]; rfl
    have l1:μ1.length=μ.length+1:=by rw[← hμ1]; simp
    have b1:μ1[μ.length]?=some (.cells (roCells o p) ty_dustcartref02_Object true):=by rw[← hμ1]; simp
    have s1:∀ q,q<μ.length→μ1[q]?=μ[q]?:=fun q hq=>by rw[← hμ1,List.getElem?_append_left hq]
    have n1':IntsG μ1 p.1 o.refs:=by rw[← hμ1]; exact n1.app _
    obtain ⟨r1,τ1,a1,i1,_,v1⟩:=ints_copy μ1 p.1 o.refs (by omega) n1'
    obtain ⟨μ2,hμ2⟩:∃ μ2,μ1++[AObj.cells [] ty_int true]++τ1=μ2:=⟨_,rfl⟩
    rw[hμ2] at a1 i1 v1
    have l2:μ1.length+1≤μ2.length:=by rw[← hμ2]; simp
    have s2:∀ q,q<μ1.length→μ2[q]?=μ1[q]?:=fun q hq=>by rw[← hμ2,List.append_assoc,List.getElem?_append_left hq]
    have b2:μ2[μ.length]?=some (.cells (roCells o p) ty_dustcartref02_Object true):=(s2 _ (by omega)).trans b1
    have bx:(μ1++[AObj.cells [] ty_int true])[μ.length]?=some (.cells (roCells o p) ty_dustcartref02_Object true):=by rw[List.getElem?_append_left (by omega)]; exact b1
    have ld5:ldS (μ1++[AObj.cells [] ty_int true]) μ.length 5=some (p.1.1,p.1.2.1,p.1.2.2):=by simp only[ldS,ld1,bx]; rfl
    obtain ⟨μ3,hμ3⟩:∃ μ3,μ2.set μ.length (.cells (roCells o (r1,p.2)) ty_dustcartref02_Object true)=μ3:=⟨_,rfl⟩
    have st3:AX.st1 μ2 μ.length 5 (.slice r1.1 r1.2.1 r1.2.2)=some μ3:=by
      simp only[AX.st1,b2]; rw[if_pos (by simp[roCells]),← hμ3]; rfl
    have l3:μ3.length=μ2.length:=by rw[← hμ3]; simp
    have s3:∀ q,q≠μ.length→μ3[q]?=μ2[q]?:=fun q hq=>by rw[← hμ3,List.getElem?_set_ne (Ne.symm hq)]
    have b3:μ3[μ.length]?=some (.cells (roCells o (r1,p.2)) ty_dustcartref02_Object true):=by rw[← hμ3,List.getElem?_set_self (getElem?_lt b2)]
    have base3:∀ q,q<μ.length→μ3[q]?=μ[q]?:=fun q hq=>by rw[s3 q (by omega),s2 q (by omega),s1 q hq]
    have n2':IntsG μ3 p.2 o.data:=n2.like fun q hq=>base3 q (il q (i.om_mem hxo (.inr (by rw[hp]; exact hq))))
    obtain ⟨r2,τ2,a2,i2',_,v2⟩:=ints_copy μ3 p.2 o.data (by omega) n2'
    obtain ⟨μ4,hμ4⟩:∃ μ4,μ3++[AObj.cells [] ty_int true]++τ2=μ4:=⟨_,rfl⟩
    rw[hμ4] at a2 i2' v2
    have l4:μ3.length+1≤μ4.length:=by rw[← hμ4]; simp
    have s4:∀ q,q<μ3.length→μ4[q]?=μ3[q]?:=fun q hq=>by rw[← hμ4,List.append_assoc,List.getElem?_append_left hq]
    have b4:μ4[μ.length]?=some (.cells (roCells o (r1,p.2)) ty_dustcartref02_Object true):=(s4 _ (by omega)).trans b3
    have by_:(μ3++[AObj.cells [] ty_int true])[μ.length]?=some (.cells (roCells o (r1,p.2)) ty_dustcartref02_Object true):=by rw[List.getElem?_append_left (by omega)]; exact b3
    have ld6:ldS (μ3++[AObj.cells [] ty_int true]) μ.length 6=some (p.2.1,p.2.2.1,p.2.2.2):=by simp only[ldS,ld1,by_]; rfl
    obtain ⟨μ5,hμ5⟩:∃ μ5,μ4.set μ.length (.cells (roCells o (r1,r2)) ty_dustcartref02_Object true)=μ5:=⟨_,rfl⟩
    have st5:AX.st1 μ4 μ.length 6 (.slice r2.1 r2.2.1 r2.2.2)=some μ5:=by
      simp only[AX.st1,b4]; rw[if_pos (by simp[roCells]),← hμ5]; rfl
    have l5:μ5.length=μ4.length:=by rw[← hμ5]; simp
    have s5:∀ q,q≠μ.length→μ5[q]?=μ4[q]?:=fun q hq=>by rw[← hμ5,List.getElem?_set_ne (Ne.symm hq)]
    have b5:μ5[μ.length]?=some (.cells (roCells o (r1,r2)) ty_dustcartref02_Object true):=by rw[← hμ5,List.getElem?_set_self (getElem?_lt b4)]
    have base5:∀ q,q<μ.length→μ5[q]?=μ[q]?:=fun q hq=>by rw[s5 q (by omega),s4 q (by omega),base3 q hq]
    have g5:RAt μ5 i2 { t with ob:=t.ob.take x }:=g.like (fun j hj=>base5 j (g2l j hj)) (by omega)
    have h5:RAt μ5 i t:=h.like (fun j hj=>base5 j (il j hj)) (by omega)
    have tl:(t.ob.take x).length=x:=by rw[List.length_take]; omega
    have lI5:∀ (q:Nat),ldI .i64 μ5 μ.length q=((roCells o (r1,r2))[q]?).bind (toI .i64):=fun q=>by simp only[ldI,ld1,b5]
    have lS5:∀ (q:Nat),ldS μ5 μ.length q=((roCells o (r1,r2))[q]?).bind toS:=fun q=>by simp only[ldS,ld1,b5]
    have lB5:∀ (q:Nat),ldB μ5 μ.length q=((roCells o (r1,r2))[q]?).bind toB:=fun q=>by simp only[ldB,ld1,b5]
    have gob:SlAt ty_dustcartref02_Object 8 μ5 i2.os x (obRow (t.ob.take x) i2.om):=by have:=g5.ob; rw[show ({ t with ob:=t.ob.take x }:RM).ob.length=x from tl] at this; exact this
    obtain ⟨o6,μ6,a6,gr,sl6⟩:=push_any szO byO zzO rfl rfl (by decide) (by decide) (by decide) μ5 i2.os x _ 1 1 (roCells o (r1,r2)) ty_dustcartref02_Object (by omega) (by decide) rfl gob
    have a6':appendD P ty_dustcartref02_Object (i2.os.1,x,x) (some ⟨μ5.length,0,none⟩,1,1) (μ5++[AObj.cells [.int .i64 o.addr,.int .i64 o.id,.int .i64 o.r,.int .i64 o.d,.int .i64 o.k,.slice r1.1 r1.2.1 r1.2.2,.slice r2.1 r2.2.1 r2.2.2,.bool o.pin] ty_dustcartref02_Object true])=some (o6,μ6):=by
      rw[← gob.form]; exact a6
    have new6:∀ a,o6.1=some a→μ5.length≤a.block:=by
      rcases gr.new with e | e
      · have e1:=sl6.len
        have e2:=gob.len
        rw[e] at e1; omega
      · exact e
    have l6:=gr.len
    have s6:∀ q,q<μ5.length→q ∉ hs i2.os→μ6[q]?=μ5[q]?:=fun q hq hn=>gr.same q hq fun a ha e=>hn (mem_hs.2 ⟨a,ha,e⟩)
    have r1lt:∀ j ∈ hs r1,μ1.length≤j∧j<μ2.length:=fun j hj=>by rcases v1 j hj with e | e <;> omega
    have r2lt:∀ j ∈ hs r2,μ3.length≤j∧j<μ4.length:=fun j hj=>by rcases v2 j hj with e | e <;> omega
    have oslt:∀ j ∈ hs i2.os,j<μ.length:=fun j hj=>g2l j (RI.mem_l.2 (.inr (.inr (.inl hj))))
    have ir1:IntsG μ6 r1 o.refs:=i1.like fun q hq=>by
      have:=r1lt q hq
      rw[s6 q (by omega) (fun hm=>by have:=oslt q hm; omega),s5 q (by omega),s4 q (by omega),s3 q (by omega)]
    have ir2:IntsG μ6 r2 o.data:=i2'.like fun q hq=>by
      have:=r2lt q hq
      rw[s6 q (by omega) (fun hm=>by have:=oslt q hm; omega),s5 q (by omega)]
    have et:t.ob.take (x+1)=t.ob.take x++[o]:=by rw[List.take_add_one,List.getElem?_eq_getElem hxl,ho]; rfl
    have o2l:i2.om.length=x:=by have:=g.ol; rw[show ({ t with ob:=t.ob.take x }:RM).ob.length=x from tl] at this; exact this
    have row:obRow (t.ob.take (x+1)) (i2.om++[(r1,r2)])=obRow (t.ob.take x) i2.om++roCells o (r1,r2):=by
      rw[et,obRow_app _ _ _ _ (by rw[o2l,tl])]; simp[obRow]
    have mA:∀ j ∈ hs i2.bs,j<μ.length:=fun j hj=>g2l j (RI.mem_l.2 (.inr (.inl hj)))
    have mC:∀ j ∈ hs i2.fs,j<μ.length:=fun j hj=>g2l j (RI.mem_l.2 (.inr (.inr (.inr (.inl hj)))))
    have mD:∀ j ∈ omL i2.om,j<μ.length:=fun j hj=>g2l j (RI.mem_l.2 (.inr (.inr (.inr (.inr hj)))))
    have mO:∀ j ∈ hs o6,μ5.length≤j:=fun j hj=>mem_hs_lt new6 hj
    have omm:∀ j,j ∈ omL (i2.om++[(r1,r2)])↔j ∈ omL i2.om∨j ∈ hs r1∨j ∈ hs r2:=fun j=>by
      rw[omL_app]; simp[omL]
    have mE:∀ j ∈ omL (i2.om++[(r1,r2)]),j ∈ omL i2.om∨(μ.length<j∧j<μ5.length):=fun j hj=>by
      rcases (omm j).1 hj with e | e | e
      · exact .inl e
      · have:=r1lt j e; exact .inr (by omega)
      · have:=r2lt j e; exact .inr (by omega)
    have sep':Sep { i2 with os:=o6,om:=i2.om++[(r1,r2)] }:=
      { hA:=sep.hA,hB:=fun hh=>by have h3:μ5.length≤i2.hb:=mO _ hh; omega,hC:=sep.hC,
        hD:=fun hh=>by
          rcases mE _ hh with e | e
          · exact sep.hD e
          · have h3:μ.length<i2.hb:=e.1; omega
        AB:=fun a ha hh=>by have:=mO _ hh; have:=mA _ ha; omega,AC:=sep.AC,
        AD:=fun a ha hh=>by
          rcases mE _ hh with e | e
          · exact sep.AD a ha e
          · have:=mA _ ha; omega
        BC:=fun a ha hh=>by have:=mO _ ha; have:=mC _ hh; omega,
        BD:=fun a ha hh=>by
          have:=mO _ ha
          rcases mE _ hh with e | e
          · have:=mD _ e; omega
          · omega
        CD:=fun a ha hh=>by
          rcases mE _ hh with e | e
          · exact sep.CD a ha e
          · have:=mC _ ha; omega
        D:=by
          show (omL (i2.om++[(r1,r2)])).Nodup
          rw[omL_app]
          have:omL [(r1,r2)]=hs r1++hs r2:=by simp[omL]
          rw[this]
          refine List.nodup_append.2 ⟨sep.D,List.nodup_append.2 ⟨hs_nodup _,hs_nodup _, ?_⟩, ?_⟩
          · intro a ha b hb e
            have:=r1lt a ha; have:=r2lt b hb; omega
          · intro a ha b hb e
            have:=mD a ha
            rcases List.mem_append.1 hb with hb | hb
            · have:=r1lt b hb; omega
            · have:=r2lt b hb; omega }
    have lt':∀ j ∈ RI.l { i2 with os:=o6,om:=i2.om++[(r1,r2)] },j<μ6.length:=by
      intro j hj
      rcases RI.mem_l.1 hj with e | e | e | e | e
      · have e':j=i2.hb:=e
        omega
      · have:=mA _ e; omega
      · obtain ⟨a,ha,rfl⟩:=mem_hs.1 e; exact sl6.lt a ha
      · have:=mC _ e; omega
      · rcases mE _ e with e | e
        · have:=mD _ e; omega
        · omega
    have hR:=RAt.newHp (μ:=μ6) (i:={ i2 with os:=o6,om:=i2.om++[(r1,r2)] }) (t:={ t with ob:=t.ob.take (x+1) })
      (g5.bl.like fun a ha=>s6 _ (by have:=mA _ (mem_hs.2 ⟨a,ha,rfl⟩); omega) (sep.AB _ (mem_hs.2 ⟨a,ha,rfl⟩)))
      (by show SlAt _ 8 μ6 o6 (t.ob.take (x+1)).length (obRow (t.ob.take (x+1)) (i2.om++[(r1,r2)])); rw[row,show (t.ob.take (x+1)).length=x+1 from by rw[List.length_take]; omega]; exact sl6)
      (g5.fw.like fun a ha=>s6 _ (by have:=mC _ (mem_hs.2 ⟨a,ha,rfl⟩); omega) (fun hm=>sep.BC _ hm (mem_hs.2 ⟨a,ha,rfl⟩)))
      (by show (i2.om++[(r1,r2)]).length=(t.ob.take (x+1)).length; rw[List.length_append,o2l,List.length_take]; show x+1=_; omega)
      (by
        intro y y1 y2
        show IntsG μ6 (i2.om++[(r1,r2)])[y].1 (t.ob.take (x+1))[y].refs∧IntsG μ6 (i2.om++[(r1,r2)])[y].2 (t.ob.take (x+1))[y].data
        by_cases hy:y<x
        · have hyo:y<i2.om.length:=by omega
          have h8:=g5.inn y (by show y<(t.ob.take x).length; omega) hyo
          have e1:(i2.om++[(r1,r2)])[y]=i2.om[y]:=List.getElem_append_left hyo
          have e2:(t.ob.take (x+1))[y]=(t.ob.take x)[y]'(by omega):=by rw[List.getElem_take,List.getElem_take]
          rw[e1,e2]
          exact ⟨h8.1.like fun q hq=>s6 q (by have:=mD q (om_mem hyo (.inl hq)); omega) (fun hm=>sep.BD q hm (om_mem hyo (.inl hq))),h8.2.like fun q hq=>s6 q (by have:=mD q (om_mem hyo (.inr hq)); omega) (fun hm=>sep.BD q hm (om_mem hyo (.inr hq)))⟩
        · have y1':y<(t.ob.take (x+1)).length:=y1
          have hyx:y=x:=by rw[List.length_take] at y1'; omega
          subst hyx
          have e1:(i2.om++[(r1,r2)])[y]=(r1,r2):=by rw[List.getElem_append_right (by omega)]; simp[o2l]
          have e2:(t.ob.take (y+1))[y]=o:=by rw[List.getElem_take]; exact ho
          rw[e1,e2]
          exact ⟨ir1,ir2⟩)
      sep' lt'
    obtain ⟨C,hC⟩:∃ C,AObj.cells [.slice i2.bs.1 i2.bs.2.1 i2.bs.2.2,.slice o6.1 o6.2.1 o6.2.2,.slice i2.fs.1 i2.fs.2.1 i2.fs.2.2,.int .i64 t.born] ty_dustcartref02_Heap true=C:=⟨_,rfl⟩
    have hR':RAt (μ6.set i2.hb C) { i2 with os:=o6,om:=i2.om++[(r1,r2)] } { t with ob:=t.ob.take (x+1) }:=by rw[← hC]; exact hR
    have hp6:μ6[i2.hb]?=some (.cells [.slice i2.bs.1 i2.bs.2.1 i2.bs.2.2,.slice i2.os.1 i2.os.2.1 i2.os.2.2,.slice i2.fs.1 i2.fs.2.1 i2.fs.2.2,.int .i64 t.born] ty_dustcartref02_Heap true):=(s6 _ (by omega) sep.hB).trans g5.hp
    have st7:AX.st1 μ6 i2.hb 1 (.slice o6.1 o6.2.1 o6.2.2)=some (μ6.set i2.hb C):=by rw[← hC]; simp[AX.st1,hp6]
    have base7:∀ q,q<lo→(μ6.set i2.hb C)[q]?=μ[q]?:=fun q hq=>by
      have:=h2 _ i2.hb_mem
      rw[List.getElem?_set_ne (show i2.hb≠q by omega),s6 q (by omega) (fun hm=>by have:=h2 q (RI.mem_l.2 (.inr (.inr (.inl hm)))); omega),base5 q (by omega)]
    have h7:RAt (μ6.set i2.hb C) i t:=h.like (fun j hj=>base7 j (hil j hj)) (by rw[List.length_set]; omega)
    obtain ⟨μ',i3,e7,r7,hb7,lo7,bs7,le7⟩:=rClone_l0_to k hil hn5 hint n (x+1) f (μ6.set i2.hb C) { i2 with os:=o6,om:=i2.om++[(r1,r2)] } h7 hR' (by
      intro j hj
      rcases RI.mem_l.1 hj with e | e | e | e | e
      · have e':j=i2.hb:=e
        rw[e']; exact h2 _ i2.hb_mem
      · exact h2 j (RI.mem_l.2 (.inr (.inl e)))
      · have:=mO j e; omega
      · exact h2 j (RI.mem_l.2 (.inr (.inr (.inr (.inl e)))))
      · rcases mE j e with e | e
        · exact h2 j (RI.mem_l.2 (.inr (.inr (.inr (.inr e)))))
        · omega) (by omega) (by omega)
    refine ⟨μ',i3, ?_,r7,hb7,lo7,fun q hq=>(bs7 q hq).trans (base7 q hq),by rw[List.length_set] at le7; omega⟩
    have qx:(0≤(x:Int)∧(x:Int)<((t.ob.length:Nat):Int))=True:=eq_true (by omega)
    have w1:w64 ((x:Int)+1)=((x+1:Nat):Int):=w64_in (by unfold inI; omega)
    have ld1n:ldS μ5 i2.hb 1=some (i2.os.1,x,x):=by have:=g5.ld1'; rw[show ({ t with ob:=t.ob.take x }:RM).ob.length=x from tl] at this; exact this
    have d0:((roCells o (r1,r2))[0]?).bind (toI .i64)=some o.addr:=rfl
    have d1:((roCells o (r1,r2))[1]?).bind (toI .i64)=some o.id:=rfl
    have d2:((roCells o (r1,r2))[2]?).bind (toI .i64)=some o.r:=rfl
    have d3:((roCells o (r1,r2))[3]?).bind (toI .i64)=some o.d:=rfl
    have d4:((roCells o (r1,r2))[4]?).bind (toI .i64)=some o.k:=rfl
    have d5:((roCells o (r1,r2))[5]?).bind toS=some (r1.1,r1.2.1,r1.2.2):=rfl
    have d6:((roCells o (r1,r2))[6]?).bind toS=some (r2.1,r2.2.1,r2.2.2):=rfl
    have d7:((roCells o (r1,r2))[7]?).bind toB=some o.pin:=rfl
    rw[d_ref02_Heap_Clone_l0_eq,b_ref02_Heap_Clone_l0]
    simp only[Option.bind_some,Nat.zero_add,Nat.add_zero,Nat.add_assoc,Nat.reduceAdd,h.ld1',decide_eq_true (show (x:Int)<((t.ob.length:Nat):Int) by omega),cond_true,qx,if_true,eo,Int.toNat_natCast,L.l0,L.l1,L.l2,L.l3,L.l4,L.l5,L.l6,L.l7,allocK,st,ld5,a1,st3,ld6,a2,st5,ld1n,lI5,lS5,lB5,d0,d1,d2,d3,d4,d5,d6,d7,a6',st7,w1]
    exact e7
theorem szRB:szOf P ty_dustcartref02_Block=some 2:=by kernel_rfl
theorem byRB:bytesOf P ty_dustcartref02_Block=some 16:=by kernel_rfl
theorem zzRB:zerosOf P ty_dustcartref02_Block=some (.agg #[.int .i64 0,.int .i64 0]):=by kernel_rfl
theorem rClone_to (k:Nat) (hk:5000≤k) (h:RG σ i m t) (hfw:m.fw.length≤4000):
    ∃ σ' i',d_ref02_Heap_Clone (k+2) (rptr i) σ=some (.pointer (rptr i'),σ')∧RAt σ' i' t∧(∀ j ∈ i'.l,σ.length≤j)∧(∀ q,q<σ.length→σ'[q]?=σ[q]?)∧σ.length≤σ'.length:=by
  have hnt:=h.nt
  have hnb:=h.nb
  have hbn:=h.bn
  have hol:=h.ol
  have hfl:t.fw.length≤4000:=by rw[h.sim.fl]; exact hfw
  have hlt:=h.at_.lt
  have h1:=h.at_.app [AObj.cells [] ty_dustcartref02_Block true]
  obtain ⟨sb,τ1,a1,g1,_⟩:=append_copy szRB byRB zzRB rfl rfl (by decide) (by decide) (by decide) σ i.bs.1 t.bl.length t.bl.length (by omega) (blRow t.bl) (by rw[blRow_length]; omega) h1.bl.first
  obtain ⟨g2,g3⟩:=g1 (by omega)
  obtain ⟨μ1,hμ1⟩:∃ μ1,σ++[AObj.cells [] ty_dustcartref02_Block true]++τ1=μ1:=⟨_,rfl⟩
  have q1:∀ {ρ:Type} (x:Option ρ),quietly (σ++[AObj.cells [] ty_dustcartref02_Block true]) μ1 x=x:=fun x=>by rw[← hμ1]; exact quiet_app _ _ x
  rw[hμ1] at a1 g3
  have hm1:RAt μ1 i t:=by rw[← hμ1]; exact h1.app τ1
  have l1:σ.length+2≤μ1.length:=by have:=getElem?_lt g3; omega
  have s1:∀ q,q<σ.length→μ1[q]?=σ[q]?:=fun q hq=>by rw[← hμ1,List.append_assoc,List.getElem?_append_left hq]
  have h2:=hm1.app [AObj.cells [] ty_api_Move true]
  have hf2:firstA (μ1++[AObj.cells [] ty_api_Move true]) 2 i.fs.1 t.fw.length=some (blRow t.fw):=by
    rcases h2.fw with hh | ⟨e0,b,cs,T,w,e1,hb2⟩
    · exact hh.first
    · rw[e0,e1]
      simp only[firstA,ldN,hb2,List.length_nil,Nat.zero_mul,Nat.add_zero,Nat.zero_le,if_true,List.take_zero]
      rfl
  obtain ⟨sf,τ2,a2,g4,g5⟩:=append_copy szMv byMv zzMv rfl rfl (by decide) (by decide) (by decide) μ1 i.fs.1 t.fw.length t.fw.length (by omega) (blRow t.fw) (by rw[blRow_length]; omega) hf2
  obtain ⟨μ2,hμ2⟩:∃ μ2,μ1++[AObj.cells [] ty_api_Move true]++τ2=μ2:=⟨_,rfl⟩
  have q2:∀ {ρ:Type} (x:Option ρ),quietly (μ1++[AObj.cells [] ty_api_Move true]) μ2 x=x:=fun x=>by rw[← hμ2]; exact quiet_app _ _ x
  rw[hμ2] at a2 g4
  have hm2:RAt μ2 i t:=by rw[← hμ2]; exact h2.app τ2
  have l2:μ1.length+1≤μ2.length:=by rw[← hμ2]; simp
  have s2:∀ q,q<μ1.length→μ2[q]?=μ1[q]?:=fun q hq=>by rw[← hμ2,List.append_assoc,List.getElem?_append_left hq]
  have e2:μ2[μ1.length]?=some (.cells [] ty_api_Move true):=by rw[← hμ2,List.append_assoc,List.getElem?_append_right (Nat.le_refl _)]; simp
  obtain ⟨fs',hfs⟩:∃ fs',sf=fs':=⟨_,rfl⟩
  have fwA:FwAt μ2 sf t.fw ∧ ∀ a,sf.1=some a→μ1.length≤a.block∧a.block<μ2.length:=by
    by_cases h0:t.fw.length=0
    · rw[g5 h0]
      exact ⟨.inr ⟨List.length_eq_zero_iff.1 h0,μ1.length,[],_,_,rfl,e2⟩,fun a ha=>by cases ha; exact ⟨Nat.le_refl _,getElem?_lt e2⟩⟩
    · obtain ⟨p1,p2⟩:=g4 (by omega)
      rw[p1]
      exact ⟨.inl (.inr ⟨μ1.length+1,rfl,Nat.zero_le _,by rw[blRow_length]; omega,p2⟩),fun a ha=>by cases ha; exact ⟨by show μ1.length≤μ1.length+1; omega,getElem?_lt p2⟩⟩
  obtain ⟨C,hC⟩:∃ C,AObj.cells [.slice sb.1 sb.2.1 sb.2.2,.slice none 0 0,.slice sf.1 sf.2.1 sf.2.2,.int .i64 t.born] ty_dustcartref02_Heap true=C:=⟨_,rfl⟩
  have hm3:=hm2.app [C]
  obtain ⟨i2,hi2⟩:∃ i2:RI,i2=⟨μ2.length,sb,(none,0,0),sf,[]⟩:=⟨_,rfl⟩
  have ml:∀ j,j ∈ i2.l↔j=μ2.length∨j=σ.length+1∨j ∈ hs sf:=by
    intro j
    rw[RI.mem_l,hi2,g2]
    simp[hs,omL]
  have sflt:∀ j ∈ hs sf,μ1.length≤j∧j<μ2.length:=fun j hj=>by
    obtain ⟨a,ha,rfl⟩:=mem_hs.1 hj
    exact fwA.2 a ha
  have R0:RAt (μ2++[C]) i2 { t with ob:=t.ob.take 0 }:=by
    rw[hi2]
    refine { hp:=by rw[← hC]; simp,bl:=?_,ob:=.inl ⟨rfl,rfl,rfl⟩,fw:=fwA.1.like fun a ha=>List.getElem?_append_left (fwA.2 a ha).2,ol:=rfl,inn:=fun x h=>by simp at h,nd:=?_,lt:=?_ }
    · rw[g2]
      exact .inr ⟨σ.length+1,rfl,Nat.zero_le _,by show (blRow t.bl).length=t.bl.length*2; rw[blRow_length]; omega,by rw[List.getElem?_append_left (by omega),s2 _ (by omega)]; exact g3⟩
    · have sf':Sep (⟨μ2.length,sb,(none,0,0),sf,[]⟩:RI):=by
        rw[g2]
        refine ⟨?_,by simp[hs], ?_,by simp[omL],fun a _ hh=>by simp[hs] at hh, ?_,fun a _ hh=>by simp[omL] at hh,fun a ha=>by simp[hs] at ha,fun a _ hh=>by simp[omL] at hh,fun a _ hh=>by simp[omL] at hh,by simp[omL]⟩
        · simp[hs]; omega
        · intro hh; have:=sflt _ hh; simp only at this; omega
        · intro a ha hh
          simp[hs] at ha
          have:=sflt a hh
          omega
      exact sf'.nd
    · intro j hj
      have hj:j ∈ i2.l:=by rw[hi2]; exact hj
      rcases (ml j).1 hj with e | e | e
      · simp; omega
      · simp; omega
      · have:=sflt j e; simp; omega
  have hint:∀ (x:Nat) (hx:x<t.ob.length),t.ob[x].refs.length≤1000∧t.ob[x].data.length≤1000:=by
    intro x hx
    obtain ⟨j,_,_,hst,hoj⟩:=h.drop hx
    rw[List.getElem?_eq_getElem hx] at hoj
    rw[Option.some.inj hoj]
    obtain ⟨_,r1,r2,r3,r4,_⟩:=word1 h.inv hst
    constructor
    · show (segL m _ _).length≤1000; rw[segL_length]; omega
    · show (segL m _ _).length≤1000; rw[segL_length]; omega
  obtain ⟨μ',i',e5,r5,hb5,lo5,bs5,le5⟩:=rClone_l0_to (k+1) (i:=i) (t:=t) (lo:=σ.length) (fun j hj=>hlt j hj) (by omega) hint t.ob.length 0 (k+1) (μ2++[C]) i2 hm3 R0 (fun j hj=>by
    rcases (ml j).1 hj with e | e | e
    · omega
    · omega
    · have:=sflt j e; omega) (by omega) (by omega)
  have hi2b:i2.hb=μ2.length:=by rw[hi2]
  rw[hi2b] at e5 hb5
  have e5':d_ref02_Heap_Clone_l0 (k+1) (k+1) (rptr i) μ2.length 0 (μ2++[C])=_:=e5
  refine ⟨μ',i', ?_,r5,lo5,fun q hq=>?_,by simp at le5; omega⟩
  · rw[d_ref02_Heap_Clone_eq,b_ref02_Heap_Clone]
    simp only[rMade_g k h,Option.bind_some,toB_bool,Bool.not_true,cond_false,allocK,Nat.zero_add,Nat.add_zero,h1.ld0,a1,q1,h2.ld2,a2,q2,hm2.ld3,hC,e5',if_true]
    show some (Value.pointer (some ⟨μ2.length,0,none⟩),μ')=some (.pointer (rptr i'),μ')
    rw[← hb5]
  · rw[bs5 q hq,List.getElem?_append_left (by omega),s2 q (by omega),s1 q hq]
end
end Go.Proofs.YtlaplcglpnlieaaGreat
