/-
  RP RQ RR RS RT.
-/
import Derived.Test.YtlaplcglpnlieaaGreatCE
import Derived.Test.YtlaplcglpnlieaaGreatCF
import Derived.Test.YtlaplcglpnlieaaGreatLB
import Derived.Test.YtlaplcglpnlieaaGreatCS
import Derived.Test.YtlaplcglpnlieaaGreatAXL
set_option linter.unusedVariables false
set_option linter.unusedSimpArgs false
namespace Go.Proofs.YtlaplcglpnlieaaGreat
open Go Go.AX
section
open Go Go.AX
variable {m:HM}
structure RO where
  addr:Int
  id:Int
  r:Int
  d:Int
  k:Int
  refs:List Int
  data:List Int
  pin:Bool
structure RM where
  bl:List (Int × Int)
  ob:List RO
  fw:List (Int × Int)
  born:Int
def RO.w (o:RO):Int:=words o.r o.d o.k
def roOf (m:HM) (j:Nat):RO:=⟨((2*j:Nat):Int),m.wds.getD (2*j) 0,refsAt m j,dataAt m j,kindAt m j,segL m (2*j+2) (refsAt m j).toNat,segL m (2*j+2+(refsAt m j).toNat) (dataAt m j).toNat,decide (tget 1 m.pnw j=1)⟩
def allS (m:HM):List Nat:=starts m 0 (32*m.bls.length)
def robs (m:HM):List RO:=(allS m).map (roOf m)
structure Sim (m:HM) (t:RM):Prop where
  bl:t.bl=m.bls
  ob:t.ob=robs m
  born:t.born=m.births
  fw:∀ a,getM t.fw a=getM m.fw a
  fl:t.fw.length=m.fw.length
  o1:Once t.fw
  o2:Once m.fw
theorem sorted_ext:∀ {l l':List Nat},l.Pairwise (·<·)→l'.Pairwise (·<·)→(∀ a,a ∈ l↔a ∈ l')→l=l'
  | [],[],_,_,_=>rfl
  | [],b::l',_,_,h=>by have:=(h b).2 List.mem_cons_self; cases this
  | a::l,[],_,_,h=>by have:=(h a).1 List.mem_cons_self; cases this
  | a::l,b::l',h1,h2,h=>by
    have p1:=List.pairwise_cons.1 h1
    have p2:=List.pairwise_cons.1 h2
    have hab:a=b:=by
      rcases List.mem_cons.1 ((h a).1 List.mem_cons_self) with e | e
      · exact e
      · rcases List.mem_cons.1 ((h b).2 List.mem_cons_self) with e' | e'
        · exact e'.symm
        · have:=p1.1 b e'; have:=p2.1 a e; omega
    subst hab
    congr 1
    refine sorted_ext p1.2 p2.2 fun x=>⟨fun hx=>?_,fun hx=>?_⟩
    · rcases List.mem_cons.1 ((h x).1 (List.mem_cons_of_mem _ hx)) with e | e
      · subst e; have:=p1.1 x hx; omega
      · exact e
    · rcases List.mem_cons.1 ((h x).2 (List.mem_cons_of_mem _ hx)) with e | e
      · subst e; have:=p2.1 x hx; omega
      · exact e
theorem allS_sorted (m:HM):(allS m).Pairwise (·<·):=(List.pairwise_lt_range' (step:=1) (by decide)).filter _
theorem mem_allS {j:Nat}:j ∈ allS m↔Start m j:=mem_all
theorem robs_eq {m':HM} {l:List Nat} (hs:l.Pairwise (·<·)) (hm:∀ j,j ∈ l↔Start m' j):robs m'=l.map (roOf m'):=by
  unfold robs
  rw[sorted_ext (allS_sorted m') hs (fun a=>by rw[mem_allS,hm])]
def rIdx:List RO→Int→Option Nat
  | [],_=>none
  | o::l,a=>if o.addr=a then some 0 else (rIdx l a).map (·+1)
theorem rIdx_map (f:Nat→RO) (hf:∀ j,(f j).addr=((2*j:Nat):Int)):∀ (L:List Nat) (a:Int),(∀ x,rIdx (L.map f) a=some x→x<L.length ∧ ∀ h:x<L.length,a=((2*L[x]:Nat):Int))∧(rIdx (L.map f) a=none → ∀ j ∈ L,a≠((2*j:Nat):Int))
  | [],a=>⟨fun x h=>(by cases h),fun _ j hj=>(by cases hj)⟩
  | j::L,a=>by
    obtain ⟨h1,h2⟩:=rIdx_map f hf L a
    simp only[List.map_cons,rIdx,hf]
    constructor
    · intro x hx
      split at hx
      · rename_i e
        cases hx
        exact ⟨by simp,fun _=>e.symm⟩
      · cases hq:rIdx (L.map f) a with
        | none=>rw[hq] at hx; cases hx
        | some y=>
          rw[hq] at hx; cases hx
          obtain ⟨q1,q2⟩:=h1 y hq
          exact ⟨by simpa using q1,fun h=>by simpa using q2 q1⟩
    · intro hx
      split at hx
      · cases hx
      · rename_i e
        cases hq:rIdx (L.map f) a with
        | none=>
          intro j' hj' e'
          rcases List.mem_cons.1 hj' with rfl | hj'
          · exact e e'.symm
          · exact h2 hq j' hj' e'
        | some y=>rw[hq] at hx; cases hx
theorem roOf_addr (m:HM) (j:Nat):(roOf m j).addr=((2*j:Nat):Int):=rfl
theorem Sim.idx {t:RM} (h:Sim m t) (a:Int):(∀ x,rIdx t.ob a=some x→x<t.ob.length ∧ ∃ j,Start m j∧a=((2*j:Nat):Int)∧hasM m a=true∧(allS m)[x]?=some j∧t.ob[x]?=some (roOf m j))∧(rIdx t.ob a=none→hasM m a=false):=by
  obtain ⟨h1,h2⟩:=rIdx_map (roOf m) (roOf_addr m) (allS m) a
  rw[h.ob]
  constructor
  · intro x hx
    obtain ⟨q1,q2⟩:=h1 x hx
    have hs:Start m (allS m)[x]:=mem_allS.1 (List.getElem_mem q1)
    refine ⟨by simpa [robs] using q1,(allS m)[x],hs,q2 q1,by rw[q2 q1]; exact hasM_of hs,List.getElem?_eq_getElem q1, ?_⟩
    unfold robs
    rw[List.getElem?_map,List.getElem?_eq_getElem q1]; rfl
  · intro hx
    cases hq:hasM m a with
    | false=>rfl
    | true=>
      obtain ⟨j,e,hs⟩:=hasM_spec hq
      exact absurd e (h2 hx j (mem_allS.2 hs))
theorem Sim.has {t:RM} (h:Sim m t) (a:Int):(rIdx t.ob a).isSome=hasM m a:=by
  obtain ⟨h1,h2⟩:=h.idx a
  cases hq:rIdx t.ob a with
  | none=>rw[h2 hq]; rfl
  | some x=>obtain ⟨_,j,_,_,e,_⟩:=h1 x hq; rw[e]; rfl
def rFind:List RO→Int→Option RO
  | [],_=>none
  | o::l,a=>if o.addr≤a∧a<o.addr+o.w then some o else rFind l a
theorem roOf_w (hI:Inv m) {j:Nat} (hs:Start m j):(roOf m j).w=(sz m j:Int):=(word1 hI hs).2.2.2.2.2.2.2
theorem rFind_map (hI:Inv m) (a:Nat):∀ (L:List Nat),(∀ j ∈ L,Start m j)→(rFind (L.map (roOf m)) (a:Int)=none → ∀ j ∈ L,¬ (2*j≤a∧a<2*j+sz m j))∧(∀ o,rFind (L.map (roOf m)) (a:Int)=some o → ∃ j ∈ L,o=roOf m j∧2*j≤a∧a<2*j+sz m j)
  | [],_=>⟨fun _ j hj=>(by cases hj),fun o h=>(by cases h)⟩
  | j::L,hL=>by
    obtain ⟨h1,h2⟩:=rFind_map hI a L fun j hj=>hL j (List.mem_cons_of_mem _ hj)
    simp only[List.map_cons,rFind,roOf_addr,roOf_w hI (hL j List.mem_cons_self)]
    constructor
    · intro hx
      split at hx
      · cases hx
      · rename_i e
        intro j' hj'
        rcases List.mem_cons.1 hj' with rfl | hj'
        · rintro ⟨q1,q2⟩; exact e ⟨by omega,by omega⟩
        · exact h1 hx j' hj'
    · intro o hx
      split at hx
      · rename_i e
        cases hx
        exact ⟨j,List.mem_cons_self,rfl,by omega,by omega⟩
      · obtain ⟨j',q1,q2⟩:=h2 o hx
        exact ⟨j',List.mem_cons_of_mem _ q1,q2⟩
theorem rFind_neg:∀ (l:List RO) (a:Int),(∀ o ∈ l,0≤o.addr)→a<0→rFind l a=none
  | [],_,_,_=>rfl
  | o::l,a,h,ha=>by
    have:=h o List.mem_cons_self
    rw[rFind,if_neg (by omega),rFind_neg l a (fun o ho=>h o (List.mem_cons_of_mem _ ho)) ha]
theorem Sim.find {t:RM} (h:Sim m t) (hI:Inv m) (a:Int):rFind t.ob a=(findI m a).map (roOf m):=by
  rw[h.ob]
  unfold findI
  by_cases h0:a<0
  · rw[if_neg (by omega),rFind_neg _ _ (fun o ho=>by
      obtain ⟨j,_,rfl⟩:=List.mem_map.1 ho
      rw[roOf_addr]; omega) h0]; rfl
  obtain ⟨n,rfl⟩:∃ n:Nat,a=(n:Int):=⟨a.toNat,by omega⟩
  obtain ⟨h1,h2⟩:=rFind_map hI n (allS m) (fun j hj=>mem_allS.1 hj)
  have hr:robs m=(allS m).map (roOf m):=rfl
  rw[hr]
  by_cases hn:(n:Int)<(m.wds.length:Int)
  · rw[if_pos ⟨by omega,hn⟩,Int.toNat_natCast]
    cases hq:rFind ((allS m).map (roOf m)) (n:Int) with
    | none=>
      cases hf:findM m n with
      | none=>rfl
      | some j=>
        obtain ⟨s1,_,s3,s4⟩:=findM_spec hf
        exact absurd ⟨s4,s3⟩ (h1 hq j (mem_allS.2 s1))
    | some o=>
      obtain ⟨j,hj,rfl,q1,q2⟩:=h2 o hq
      rw[hI.find_some (mem_allS.1 hj) q1 q2]; rfl
  · rw[if_neg (by omega)]
    cases hq:rFind ((allS m).map (roOf m)) (n:Int) with
    | none=>rfl
    | some o=>
      obtain ⟨j,hj,rfl,q1,q2⟩:=h2 o hq
      have:=hI.fit j (mem_allS.1 hj)
      omega
def rAt:List RO→Int→Option Int
  | [],_=>none
  | o::l,n=>if o.id=n then some o.addr else rAt l n
theorem rAt_map (n:Int):∀ (L:List Nat),(rAt (L.map (roOf m)) n=none → ∀ j ∈ L,m.wds.getD (2*j) 0≠n)∧(∀ a,rAt (L.map (roOf m)) n=some a → ∃ j ∈ L,a=((2*j:Nat):Int)∧m.wds.getD (2*j) 0=n)
  | []=>⟨fun _ j hj=>(by cases hj),fun a h=>(by cases h)⟩
  | j::L=>by
    obtain ⟨h1,h2⟩:=rAt_map n L
    simp only[List.map_cons,rAt,roOf_addr]
    have e0:(roOf m j).id=m.wds.getD (2*j) 0:=rfl
    rw[e0]
    constructor
    · intro hx
      split at hx
      · cases hx
      · rename_i e
        intro j' hj'
        rcases List.mem_cons.1 hj' with rfl | hj'
        · exact e
        · exact h1 hx j' hj'
    · intro a hx
      split at hx
      · rename_i e
        cases hx
        exact ⟨j,List.mem_cons_self,rfl,e⟩
      · obtain ⟨j',q1,q2⟩:=h2 a hx
        exact ⟨j',List.mem_cons_of_mem _ q1,q2⟩
theorem Sim.at {t:RM} (h:Sim m t) (hI:Inv m) (n:Int):rAt t.ob n=getM m.pl n:=by
  rw[h.ob]
  obtain ⟨h1,h2⟩:=rAt_map (m:=m) n (allS m)
  have hr:robs m=(allS m).map (roOf m):=rfl
  rw[hr]
  cases hq:rAt ((allS m).map (roOf m)) n with
  | none=>
    cases hg:getM m.pl n with
    | none=>rfl
    | some a=>
      obtain ⟨j,rfl,s1,s2⟩:=hI.plc _ _ hg
      exact absurd s2 (h1 hq j (mem_allS.2 s1))
  | some a=>
    obtain ⟨j,hj,rfl,e⟩:=h2 a hq
    have:=(hI.idn j (mem_allS.1 hj)).2.2
    rw[e] at this
    exact this.symm
def rOver (l:List RO) (a w but:Int):Bool:=l.any fun o=>decide (o.id≠but∧o.addr<a+w∧a<o.addr+o.w)
def rFits (t:RM) (whole:Int→Int) (a w but:Int):Int:=
  if ¬ (0≤a∧a.tmod 2=0∧a<(t.bl.length:Int)*64) then 1 else
  if w>32 then (if a.tmod 64≠0∨(t.bl.getD (a.tdiv 64).toNat (0,0)).1≠2∨whole (a.tdiv 64)≠(w+63).tdiv 64 then 5 else if rOver t.ob a w but then 8 else 0)
  else if (t.bl.getD (a.tdiv 64).toNat (0,0)).1≠1∨(a+w-1).tdiv 64≠a.tdiv 64 then 5 else if rOver t.ob a w but then 8 else 0
end
section
open Go Go.AX
variable {m:HM} {t:RM}
def PinZ (m:HM):Prop:=∀ j,j<32*m.bls.length→¬ Start m j→tget 1 m.pnw j=0
theorem roOf_congr (hI:Inv m) {m':HM} {j j':Nat} (hs:Start m j) (hw:∀ c,c<sz m j→m'.wds.getD (2*j'+c) 0=m.wds.getD (2*j+c) 0) (hp:tget 1 m'.pnw j'=tget 1 m.pnw j):roOf m' j'={ roOf m j with addr:=((2*j':Nat):Int) }:=by
  have hz:=hI.size hs
  have w1:=hw 1 (by omega)
  obtain ⟨_,_,er,ed⟩:=sz_of (m:=m) (m':=m') (j:=j) (j':=j') w1
  have ek:kindAt m' j'=kindAt m j:=by unfold kindAt; rw[w1]
  have w0:=hw 0 (by omega)
  rw[Nat.add_zero,Nat.add_zero] at w0
  unfold roOf
  rw[w0,er,ed,ek,hp,segL_like (m:=m) (m':=m') (refsAt m j).toNat (2*j+2) (2*j'+2) (fun q hq=>by
    have:=hw (2+q) (by omega)
    rw[Nat.add_assoc,Nat.add_assoc]; exact this),segL_like (m:=m) (m':=m') (dataAt m j).toNat (2*j+2+(refsAt m j).toNat) (2*j'+2+(refsAt m j).toNat) (fun q hq=>by
    have:=hw (2+(refsAt m j).toNat+q) (by omega)
    rw[Nat.add_assoc (2*j'),Nat.add_assoc (2*j'),Nat.add_assoc (2*j),Nat.add_assoc (2*j)]; exact this)]
theorem roOf_same (hI:Inv m) {m':HM} {j:Nat} (hs:Start m j) (hw:∀ c,c<sz m j→m'.wds.getD (2*j+c) 0=m.wds.getD (2*j+c) 0) (hp:tget 1 m'.pnw j=tget 1 m.pnw j):roOf m' j=roOf m j:=roOf_congr hI hs hw hp
def rPos:List RO→Int→Nat
  | [],_=>0
  | o::l,a=>if o.addr<a then rPos l a+1 else 0
def rIns (l:List RO) (o:RO):List RO:=l.take (rPos l o.addr)++o::l.drop (rPos l o.addr)
theorem rPos_le:∀ (l:List RO) (a:Int),rPos l a≤l.length
  | [],_=>Nat.le_refl _
  | o::l,a=>by
    rw[rPos]
    split
    · have:=rPos_le l a; simp; omega
    · simp
theorem rPos_map (f:Nat→RO) (hf:∀ j,(f j).addr=((2*j:Nat):Int)) (j:Nat):∀ (L:List Nat),L.Pairwise (·<·)→(∀ y ∈ L.take (rPos (L.map f) ((2*j:Nat):Int)),y<j)∧(∀ y ∈ L.drop (rPos (L.map f) ((2*j:Nat):Int)),j≤y)
  | [],_=>⟨fun y h=>(by simp at h),fun y h=>(by simp at h)⟩
  | b::L,h=>by
    have p:=List.pairwise_cons.1 h
    obtain ⟨h1,h2⟩:=rPos_map f hf j L p.2
    simp only[List.map_cons,rPos,hf]
    split
    · rw[List.take_succ_cons,List.drop_succ_cons]
      refine ⟨fun y hy=>?_,h2⟩
      rcases List.mem_cons.1 hy with rfl | hy
      · omega
      · exact h1 y hy
    · rw[List.take_zero,List.drop_zero]
      refine ⟨fun y hy=>(by cases hy),fun y hy=>?_⟩
      rcases List.mem_cons.1 hy with rfl | hy
      · omega
      · have:=p.1 y hy; omega
theorem rIns_map {m':HM} {L:List Nat} {j:Nat} {o:RO} (hs:L.Pairwise (·<·)) (hj:j ∉ L) (hst:∀ y,Start m' y↔y=j∨y ∈ L) (f:Nat→RO) (hf:∀ j,(f j).addr=((2*j:Nat):Int)) (hfL:∀ y ∈ L,roOf m' y=f y) (ho:roOf m' j=o):robs m'=rIns (L.map f) o:=by
  have ha:o.addr=((2*j:Nat):Int):=by rw[← ho]; rfl
  obtain ⟨h1,h2⟩:=rPos_map f hf j L hs
  unfold rIns
  rw[ha]
  obtain ⟨p,hp⟩:∃ p,rPos (L.map f) ((2*j:Nat):Int)=p:=⟨_,rfl⟩
  rw[hp] at h1 h2 ⊢
  have hsplit:=List.take_append_drop p L
  have hs':(L.take p++L.drop p).Pairwise (·<·):=by rw[hsplit]; exact hs
  rw[List.pairwise_append] at hs'
  rw[robs_eq (l:=L.take p++j::L.drop p) ?_ ?_,List.map_append,List.map_cons,← List.map_take,← List.map_drop,ho]
  · congr 1
    · exact List.map_congr_left fun y hy=>hfL y (List.mem_of_mem_take hy)
    · congr 1
      exact List.map_congr_left fun y hy=>hfL y (List.mem_of_mem_drop hy)
  · rw[List.pairwise_append,List.pairwise_cons]
    refine ⟨hs'.1,⟨fun y hy=>?_,hs'.2.1⟩,fun x hx y hy=>?_⟩
    · have:=h2 y hy
      have:y≠j:=fun e=>hj (e ▸ List.mem_of_mem_drop hy)
      omega
    · rcases List.mem_cons.1 hy with rfl | hy
      · exact h1 x hx
      · exact hs'.2.2 x hx y hy
  · intro y
    rw[hst y,List.mem_append,List.mem_cons]
    constructor
    · rintro (h | h | h)
      · exact .inr (List.mem_of_mem_take h)
      · exact .inl h
      · exact .inr (List.mem_of_mem_drop h)
    · rintro (h | h)
      · exact .inr (.inl h)
      · rw[← hsplit,List.mem_append] at h
        rcases h with h | h
        · exact .inl h
        · exact .inr (.inr h)
theorem segL_zero {m':HM}:∀ (n a:Nat),(∀ q,q<n→m'.wds.getD (a+q) 0=0)→segL m' a n=List.replicate n 0
  | 0,a,h=>rfl
  | n+1,a,h=>by
    rw[segL_cons,List.replicate_succ,segL_zero n (a+1) (fun q hq=>by have:=h (q+1) (by omega); rw[show a+1+q=a+(q+1) from by omega]; exact this)]
    have:=h 0 (by omega)
    rw[Nat.add_zero] at this
    rw[this]
theorem Sim.like {m':HM} {t':RM} (h:Sim m t) (hb:t'.bl=m'.bls) (ho:t'.ob=robs m') (hn:t'.born=m'.births) (hf:t'.fw=t.fw) (hm:m'.fw=m.fw):Sim m' t':=
  ⟨hb,ho,hn,by rw[hf,hm]; exact h.fw,by rw[hf,hm]; exact h.fl,by rw[hf]; exact h.o1,by rw[hm]; exact h.o2⟩
theorem place_words (hS:Sh m) {j:Nat} (hj:j<32*m.bls.length) (n:Int) (a:Nat):(placeM m j n).wds.getD a 0=if a=2*j+1 then n else if a=2*j then m.births+1 else m.wds.getD a 0:=by
  have:=hS.wl
  show ((m.wds.set (2*j) (m.births+1)).set (2*j+1) n).getD a 0=_
  rw[getD_set_in,getD_set_in,List.length_set]
  by_cases h1:a=2*j+1
  · subst h1; rw[if_pos ⟨rfl,by omega⟩,if_pos rfl]
  · rw[if_neg (fun h=>h1 h.1.symm),if_neg h1]
    by_cases h2:a=2*j
    · subst h2; rw[if_pos ⟨rfl,by omega⟩,if_pos rfl]
    · rw[if_neg (fun h=>h2 h.1.symm),if_neg h2]
theorem Sim.place (h:Sim m t) (hI:Inv m) (hI2:Inv2 m) (hS:Sh m) (hP:PinZ m) {j:Nat} {r d k:Int} (hv:valid r d k=true) (hj:j<32*m.bls.length)
    (hap:∀ o,Start m o→2*o+sz m o≤2*j∨2*j+szN (num r d k)≤2*o):Sim (placeM m j (num r d k)) { t with born:=t.born+1,ob:=rIns t.ob ⟨((2*j:Nat):Int),t.born+1,r,d,k,List.replicate r.toNat 0,List.replicate d.toNat 0,false⟩ }∧PinZ (placeM m j (num r d k)):=by
  have hsl:=hS.sl
  obtain ⟨p1,p2,p3,_⟩:=num_parts hv
  have hsz:=szN_num hv
  have hv':=hv
  simp[valid] at hv'
  have hnot:¬ Start m j:=by
    intro hs
    have:=hap j hs
    have:=hI.size hs
    rcases this with ⟨_,_⟩
    rw[hsz] at *
    omega
  have hst:∀ y,Start (placeM m j (num r d k)) y↔y=j∨y ∈ allS m:=fun y=>by rw[start_place hsl hj,mem_allS]
  have key:robs (placeM m j (num r d k))=rIns (robs m) ⟨((2*j:Nat):Int),m.births+1,r,d,k,List.replicate r.toNat 0,List.replicate d.toNat 0,false⟩:=by
    refine rIns_map (allS_sorted m) (fun hm=>hnot (mem_allS.1 hm)) hst (roOf m) (roOf_addr m) (fun y hy=>?_) ?_
    · have hy:=mem_allS.1 hy
      have hne:y≠j:=fun e=>hnot (e ▸ hy)
      have hz:=hI.size hy
      have:=hap y hy
      refine roOf_same hI hy (fun c hc=>?_) rfl
      rw[place_words hS hj,if_neg (by rw[hsz] at this; omega),if_neg (by rw[hsz] at this; omega)]
    · have w0:(placeM m j (num r d k)).wds.getD (2*j) 0=m.births+1:=by rw[place_words hS hj,if_neg (by omega),if_pos rfl]
      have w1:(placeM m j (num r d k)).wds.getD (2*j+1) 0=num r d k:=by rw[place_words hS hj,if_pos rfl]
      have e1:refsAt (placeM m j (num r d k)) j=r:=by unfold refsAt; rw[w1,p1]
      have e2:dataAt (placeM m j (num r d k)) j=d:=by unfold dataAt; rw[w1,p2]
      have e3:kindAt (placeM m j (num r d k)) j=k:=by unfold kindAt; rw[w1,p3]
      have hzero:∀ a,2*j+2≤a→a<2*j+szN (num r d k)→(placeM m j (num r d k)).wds.getD a 0=0:=by
        intro a h1 h2
        rw[place_words hS hj,if_neg (by omega),if_neg (by omega)]
        refine hI2.zero a fun o ho q1 q2=>?_
        have:=hap o ho
        have:=hI.use ho
        omega
      unfold roOf
      rw[w0,e1,e2,e3,segL_zero,segL_zero]
      · have:tget 1 (placeM m j (num r d k)).pnw j=0:=hP j hj hnot
        rw[this]; rfl
      · intro q hq; exact hzero _ (by omega) (by rw[hsz]; omega)
      · intro q hq; exact hzero _ (by omega) (by rw[hsz]; omega)
  refine ⟨h.like h.bl ?_ ?_ rfl rfl,fun y hy hn=>?_⟩
  · show rIns t.ob _=_
    rw[key,h.ob,h.born]
  · show t.born+1=m.births+1
    rw[h.born]
  · exact hP y hy fun hs=>hn ((start_place hsl hj).2 (.inr hs))
theorem map_erase {α β:Type} (f:α→β):∀ (l:List α) (x:Nat),(l.map f).eraseIdx x=(l.eraseIdx x).map f
  | [],_=>rfl
  | _::_,0=>rfl
  | a::l,x+1=>by simp[List.eraseIdx_cons_succ,map_erase f l x]
theorem erase_map {m':HM} {x j:Nat} (hx:(allS m)[x]?=some j) (hst:∀ y,Start m' y↔y≠j∧Start m y) (hr:∀ y,Start m y→y≠j→roOf m' y=roOf m y):robs m'=(robs m).eraseIdx x∧((allS m).eraseIdx x).Pairwise (·<·)∧(∀ y,y ∈ (allS m).eraseIdx x↔y≠j∧Start m y)∧(robs m).eraseIdx x=((allS m).eraseIdx x).map (roOf m):=by
  obtain ⟨hxl,hxe⟩:=List.getElem?_eq_some_iff.1 hx
  have hs:=(allS_sorted m).sublist (List.eraseIdx_sublist (allS m) x)
  have hnd:(allS m).Nodup:=starts_nodup _ _
  have hm:∀ y,y ∈ (allS m).eraseIdx x↔y≠j∧Start m y:=by
    intro y
    rw[List.mem_eraseIdx_iff_getElem]
    constructor
    · rintro ⟨i,hi,hne,rfl⟩
      refine ⟨fun e=>hne ?_,mem_allS.1 (List.getElem_mem _)⟩
      exact (List.getElem_inj hnd).1 (e.trans hxe.symm)
    · rintro ⟨hne,hy⟩
      obtain ⟨i,hi,rfl⟩:=List.mem_iff_getElem.1 (mem_allS.2 hy)
      exact ⟨i,hi,fun e=>hne (by subst e; exact hxe),rfl⟩
  have he:(robs m).eraseIdx x=((allS m).eraseIdx x).map (roOf m):=by
    unfold robs; rw[map_erase]
  refine ⟨?_,hs,hm,he⟩
  rw[robs_eq hs (fun y=>by rw[hm,hst]),he]
  exact List.map_congr_left fun y hy=>hr y ((hm y).1 hy).2 ((hm y).1 hy).1
theorem Sim.kill (h:Sim m t) (hI:Inv m) (hS:Sh m) (hP:PinZ m) {x j:Nat} (hs:Start m j) (hx:(allS m)[x]?=some j):Sim (killM m j) { t with ob:=t.ob.eraseIdx x }∧PinZ (killM m j):=by
  have hsl:=hS.sl
  have hpl:=hS.pl
  have hj:=hs.1
  have hst:∀ y,Start (killM m j) y↔y≠j∧Start m y:=fun y=>start_kill hsl hj
  obtain ⟨e1,_⟩:=erase_map hx hst (fun y hy hne=>roOf_same hI hy (fun c hc=>kill_other hI hs hy hne (by omega) (by omega)) (by
    show tget 1 (tput 1 m.pnw j 0) y=_
    rw[tget_tput_other (.inl rfl) (by decide) (Ne.symm hne)]))
  refine ⟨h.like h.bl ?_ h.born rfl rfl,fun y hy hn=>?_⟩
  · show t.ob.eraseIdx x=_
    rw[e1,h.ob]
  · show tget 1 (tput 1 m.pnw j 0) y=0
    by_cases e:y=j
    · subst e; rw[tget_tput_same (.inl rfl) (by decide) (by omega)]
    · rw[tget_tput_other (.inl rfl) (by decide) (Ne.symm e)]
      exact hP y hy fun hq=>hn ((hst y).2 ⟨e,hq⟩)
theorem Once.getM_none {k:Int}:∀ {l:List (Int × Int)},getM l k=none → ∀ e ∈ l,e.1≠k
  | [],_,e,he=>by cases he
  | a::l,h,e,he=>by
    unfold getM at h
    rw[List.find?_cons] at h
    cases hq:(k == a.1) with
    | true=>rw[hq] at h; cases h
    | false=>
      rw[hq] at h
      rcases List.mem_cons.1 he with rfl | he
      · exact fun e'=>by rw[e'] at hq; simp at hq
      · exact Once.getM_none (l:=l) h e he
theorem getM_cons (a k:Int) (b:Int) (l:List (Int × Int)):getM ((a,b)::l) k=if k=a then some b else getM l k:=by
  unfold getM
  rw[List.find?_cons]
  by_cases h:k=a
  · rw[if_pos h]; simp[h]
  · rw[if_neg h]
    have:(k == a)=false:=by simpa using h
    simp only[this]
def rFwd (l:List (Int × Int)) (a b:Int):List (Int × Int):=(l.filter fun e=>e.1 != a)++[(a,b)]
theorem getM_app (l l':List (Int × Int)) (k:Int):getM (l++l') k=(getM l k).or (getM l' k):=by
  induction l with
  | nil=>simp[getM]
  | cons e l ih=>
    obtain ⟨x,y⟩:=e
    rw[List.cons_append,getM_cons,getM_cons,ih]
    split <;> simp
theorem getM_filter (a k:Int):∀ l:List (Int × Int),getM (l.filter fun e=>e.1 != a) k=if k=a then none else getM l k
  | []=>by simp[getM]
  | (x,y)::l=>by
    rw[List.filter_cons]
    have ih:=getM_filter a k l
    by_cases h:x=a
    · subst h
      simp only[bne_self_eq_false,Bool.false_eq_true,if_false]
      rw[ih,getM_cons]
      by_cases hk:k=x
      · rw[if_pos hk,if_pos hk]
      · rw[if_neg hk,if_neg hk,if_neg hk]
    · have:(x != a)=true:=bne_iff_ne.2 h
      simp only[this,if_true]
      rw[getM_cons,ih,getM_cons]
      by_cases hk:k=x
      · rw[if_pos hk,if_pos hk,if_neg (by omega)]
      · rw[if_neg hk,if_neg hk]
theorem once_filter (p:Int × Int→Bool):∀ l,Once l→Once (l.filter p)
  | [],_=>trivial
  | e::l,h=>by
    rw[List.filter_cons]
    split
    · refine ⟨?_,once_filter p l h.2⟩
      have h1:=h.1
      cases hq:getM (l.filter p) e.1 with
      | none=>rfl
      | some v=>
        unfold getM at hq
        cases hf:(l.filter p).find? (fun e'=>e.1 == e'.1) with
        | none=>rw[hf] at hq; cases hq
        | some e'=>
          have hm:=List.mem_of_find?_eq_some hf
          have he:=List.find?_some hf
          have:=Once.getM_none h1 e' (List.mem_filter.1 hm).1
          simp at he
          exact absurd he.symm this
    · exact once_filter p l h.2
theorem filter_len (a:Int):∀ l:List (Int × Int),Once l→(l.filter fun e=>e.1 != a).length+(if (getM l a).isSome then 1 else 0)=l.length
  | [],_=>by simp[getM]
  | (x,y)::l,h=>by
    have ih:=filter_len a l h.2
    rw[List.filter_cons,getM_cons]
    by_cases he:x=a
    · subst he
      have h1:getM l x=none:=h.1
      rw[h1] at ih
      simp at ih ⊢
      exact ih
    · have:(x != a)=true:=bne_iff_ne.2 he
      simp only[this,if_true]
      rw[if_neg (Ne.symm he)]
      simp only[List.length_cons]
      omega
theorem setM_len (a b:Int):∀ l:List (Int × Int),(setM a b l).length=if (getM l a).isSome then l.length else l.length+1
  | []=>by simp[setM,getM]
  | (x,y)::l=>by
    have ih:=setM_len a b l
    rw[setM,getM_cons]
    by_cases he:a=x
    · subst he; simp
    · have:(a == (x,y).1)=false:=by simpa using he
      simp only[this,Bool.false_eq_true,if_false,if_neg he,List.length_cons,ih]
      split <;> rfl
theorem once_snoc (a b:Int):∀ l:List (Int × Int),Once l→getM l a=none→Once (l++[(a,b)])
  | [],_,_=>⟨rfl,trivial⟩
  | (x,y)::l,h,hn=>by
    rw[getM_cons] at hn
    have hne:a≠x:=fun e=>by rw[if_pos e] at hn; cases hn
    rw[if_neg hne] at hn
    refine ⟨?_,once_snoc a b l h.2 hn⟩
    show getM (l++[(a,b)]) x=none
    rw[getM_app,show getM l x=none from h.1,getM_cons,if_neg (Ne.symm hne)]; rfl
theorem Sim.fwd {m':HM} {t':RM} (h:Sim m t) (a b:Int) (hb:t'.bl=m'.bls) (ho:t'.ob=robs m') (hn:t'.born=m'.births) (hf:t'.fw=rFwd t.fw a b) (hm:m'.fw=setM a b m.fw):Sim m' t':=by
  have hno:getM (t.fw.filter fun e=>e.1 != a) a=none:=by rw[getM_filter,if_pos rfl]
  refine ⟨hb,ho,hn,fun k=>?_, ?_, ?_,by rw[hm]; exact once_set _ _ _ h.o2⟩
  · rw[hf,hm,getM_set]
    unfold rFwd
    rw[getM_app,getM_filter,getM_cons]
    by_cases hk:k=a
    · rw[if_pos hk,if_pos hk,if_pos hk]; rfl
    · rw[if_neg hk,if_neg hk,if_neg hk,← h.fw k]
      cases getM t.fw k <;> rfl
  · rw[hf,hm,setM_len]
    unfold rFwd
    have h1:=filter_len a t.fw h.o1
    rw[h.fw a] at h1
    have h2:=h.fl
    rw[List.length_append]
    simp only[List.length_cons,List.length_nil]
    cases hq:(getM m.fw a).isSome with
    | true=>rw[hq] at h1; simp only[if_true] at h1 ⊢; omega
    | false=>rw[hq] at h1; simp only[Bool.false_eq_true,if_false] at h1 ⊢; omega
  · rw[hf]
    exact once_snoc _ _ _ (once_filter _ _ h.o1) hno
theorem Sim.move (h:Sim m t) (hI:Inv m) (hS:Sh m) (hP:PinZ m) {x j u:Nat} (hs:Start m j) (hx:(allS m)[x]?=some j) (hu:u<32*m.bls.length) (hfit:2*u+sz m j≤m.wds.length)
    (hap:∀ o,Start m o→o≠j→2*o+sz m o≤2*u∨2*u+sz m j≤2*o):Sim (moveM m j u) { t with ob:=rIns (t.ob.eraseIdx x) { roOf m j with addr:=((2*u:Nat):Int) },fw:=rFwd t.fw ((2*j:Nat):Int) ((2*u:Nat):Int) }∧PinZ (moveM m j u):=by
  have hsl:=hS.sl
  have hpl:=hS.pl
  have hz:=hI.size hs
  have tl:=tget_lt 1 m.pnw j
  have hst:=fun y=>start_move (m:=m) hS (j:=j) (t:=u) (j':=y) hs.1 hu
  have hno:∀ o,Start m o→o≠j→o≠u:=by
    rintro o ho e rfl
    have:=hap o ho e
    have:=hI.size ho
    omega
  obtain ⟨_,e2,e3,e4⟩:=erase_map (m':=killM m j) hx (fun y=>start_kill hsl hs.1) (fun y hy hne=>roOf_same hI hy (fun c hc=>kill_other hI hs hy hne (by omega) (by omega)) (by
    show tget 1 (tput 1 m.pnw j 0) y=_
    rw[tget_tput_other (.inl rfl) (by decide) (Ne.symm hne)]))
  have key:robs (moveM m j u)=rIns ((robs m).eraseIdx x) { roOf m j with addr:=((2*u:Nat):Int) }:=by
    rw[e4]
    refine rIns_map (j:=u) e2 (fun hm=>?_) (fun y=>?_) (roOf m) (roOf_addr m) (fun y hy=>?_) ?_
    · obtain ⟨q1,q2⟩:=(e3 u).1 hm
      exact hno u q2 q1 rfl
    · rw[hst,e3]
    · obtain ⟨q1,q2⟩:=(e3 y).1 hy
      refine roOf_same hI q2 (fun c hc=>move_other hI hs hfit hap q2 q1 (by omega) (by omega)) ?_
      show tget 1 (tput 1 (tput 1 m.pnw j 0) u (tget 1 m.pnw j)) y=_
      rw[tget_tput_other (.inl rfl) tl (Ne.symm (hno y q2 q1)),tget_tput_other (.inl rfl) (by decide) (Ne.symm q1)]
    · refine roOf_congr hI hs (fun c hc=>?_) ?_
      · rw[move_words hI hs hfit,if_pos (by omega),show 2*j+(2*u+c-2*u)=2*j+c from by omega]
      · show tget 1 (tput 1 (tput 1 m.pnw j 0) u (tget 1 m.pnw j)) u=_
        rw[tget_tput_same (.inl rfl) tl (by rw[tput_length]; omega)]
  refine ⟨h.fwd _ _ h.bl ?_ h.born rfl rfl,fun y hy hn=>?_⟩
  · show rIns (t.ob.eraseIdx x) _=_
    rw[key,h.ob]
  · show tget 1 (tput 1 (tput 1 m.pnw j 0) u (tget 1 m.pnw j)) y=0
    have hy:y<32*m.bls.length:=hy
    have h1:y≠u:=fun e=>hn ((hst y).2 (.inl e))
    rw[tget_tput_other (.inl rfl) tl (Ne.symm h1)]
    by_cases e:y=j
    · subst e; rw[tget_tput_same (.inl rfl) (by decide) (by omega)]
    · rw[tget_tput_other (.inl rfl) (by decide) (Ne.symm e)]
      exact hP y hy fun hq=>hn ((hst y).2 (.inr ⟨e,hq⟩))
theorem set_map {m':HM} {x j:Nat} {o:RO} (hx:(allS m)[x]?=some j) (hst:∀ y,Start m' y↔Start m y) (hr:∀ y,Start m y→y≠j→roOf m' y=roOf m y) (ho:roOf m' j=o):robs m'=(robs m).set x o:=by
  obtain ⟨hxl,hxe⟩:=List.getElem?_eq_some_iff.1 hx
  have hnd:(allS m).Nodup:=starts_nodup _ _
  rw[robs_eq (allS_sorted m) (fun y=>by rw[mem_allS,hst])]
  apply List.ext_getElem?
  intro i
  unfold robs
  rw[List.getElem?_map,List.getElem?_set,List.length_map,List.getElem?_map]
  by_cases e:x=i
  · subst e
    rw[if_pos rfl,if_pos hxl,hx,← ho]; rfl
  · rw[if_neg e]
    cases hq:(allS m)[i]? with
    | none=>rfl
    | some y=>
      obtain ⟨hil,hie⟩:=List.getElem?_eq_some_iff.1 hq
      have hy:Start m y:=mem_allS.1 (hie ▸ List.getElem_mem hil)
      show some _=some _
      rw[hr y hy (fun e'=>e ((List.getElem_inj hnd).1 (hxe.trans (e'.symm.trans hie.symm))))]
theorem segL_set {m':HM} {a i n:Nat} {v:Int} (hi:i<n) (hal:a+i<m.wds.length) (hw:m'.wds=m.wds.set (a+i) v):segL m' a n=(segL m a n).set i v:=by
  apply List.ext_getElem?
  intro q
  rw[List.getElem?_set,segL_length]
  by_cases hq:q<n
  · rw[segL_get m' n a q hq,hw,getD_set_in]
    by_cases e:i=q
    · subst e; rw[if_pos ⟨rfl,hal⟩,if_pos rfl,if_pos hi]
    · rw[if_neg (fun h=>e (by omega)),if_neg e,segL_get m n a q hq]
  · rw[List.getElem?_eq_none (by rw[segL_length]; omega),if_neg (by omega),List.getElem?_eq_none (by rw[segL_length]; omega)]
theorem segL_off {m':HM} {a n p:Nat} {v:Int} (h:p<a∨a+n≤p) (hw:m'.wds=m.wds.set p v):segL m' a n=segL m a n:=
  segL_like n a a fun q hq=>by rw[hw,getD_set_in,if_neg (by omega)]
theorem Sim.word (h:Sim m t) (hI:Inv m) (hP:PinZ m) {x j q:Nat} (hs:Start m j) (hx:(allS m)[x]?=some j) (hq:2+q<use m j) (v:Int):
    Sim (wordM m (2*j+2+q) v) { t with ob:=t.ob.set x (if (q:Int)<refsAt m j then { roOf m j with refs:=(roOf m j).refs.set q v } else { roOf m j with data:=(roOf m j).data.set (q-(refsAt m j).toNat) v }) }∧PinZ (wordM m (2*j+2+q) v):=by
  have hu:=hI.use hs
  have hfit:=hI.fit j hs
  have hst:∀ y,Start (wordM m (2*j+2+q) v) y↔Start m y:=fun y=>Iff.rfl
  obtain ⟨_,r1,r2,r3,r4,_⟩:=word1 hI hs
  have key:=word_key hI hs (t:=q) (by omega) v
  have e:robs (wordM m (2*j+2+q) v)=(robs m).set x (if (q:Int)<refsAt m j then { roOf m j with refs:=(roOf m j).refs.set q v } else { roOf m j with data:=(roOf m j).data.set (q-(refsAt m j).toNat) v }):=by
    refine set_map hx hst (fun y hy hne=>?_) ?_
    · refine roOf_same hI hy (fun c hc=>?_) rfl
      show (m.wds.set _ _).getD _ 0=_
      rw[getD_set_in,if_neg]
      rintro ⟨e,_⟩
      exact hne (apart_in hI hy hs (a:=2*j+2+q) (by omega) (by omega) (by omega) (by omega))
    · have k0:=key j hs 0 (by decide)
      have k1:=key j hs 1 (by decide)
      obtain ⟨_,_,er,ed⟩:=sz_of (m:=m) (m':=wordM m (2*j+2+q) v) (j:=j) (j':=j) k1
      have ek:kindAt (wordM m (2*j+2+q) v) j=kindAt m j:=by unfold kindAt; rw[k1]
      simp only[Nat.add_zero] at k0
      unfold roOf
      rw[k0,er,ed,ek]
      by_cases hc:(q:Int)<refsAt m j
      · have a1:segL (wordM m (2*j+2+q) v) (2*j+2) (refsAt m j).toNat=(segL m (2*j+2) (refsAt m j).toNat).set q v:=segL_set (by omega) (by omega) rfl
        have a2:segL (wordM m (2*j+2+q) v) (2*j+2+(refsAt m j).toNat) (dataAt m j).toNat=segL m (2*j+2+(refsAt m j).toNat) (dataAt m j).toNat:=segL_off (p:=2*j+2+q) (v:=v) (by omega) rfl
        rw[if_pos hc,a1,a2]
        rfl
      · have a1:segL (wordM m (2*j+2+q) v) (2*j+2) (refsAt m j).toNat=segL m (2*j+2) (refsAt m j).toNat:=segL_off (p:=2*j+2+q) (v:=v) (by omega) rfl
        have a2:segL (wordM m (2*j+2+q) v) (2*j+2+(refsAt m j).toNat) (dataAt m j).toNat=(segL m (2*j+2+(refsAt m j).toNat) (dataAt m j).toNat).set (q-(refsAt m j).toNat) v:=segL_set (by omega) (by omega) (by
          show m.wds.set _ _=_
          rw[show 2*j+2+q=2*j+2+(refsAt m j).toNat+(q-(refsAt m j).toNat) from by omega])
        rw[if_neg hc,a1,a2]
        rfl
  exact ⟨h.like h.bl (by show t.ob.set x _=_; rw[e,h.ob]) h.born rfl rfl,hP⟩
theorem Sim.pins (h:Sim m t) (hI:Inv m) (hS:Sh m) (hP:PinZ m) {x j:Nat} (hs:Start m j) (hx:(allS m)[x]?=some j) (b:Bool):
    Sim { m with pnw:=tput 1 m.pnw j (if b then 1 else 0) } { t with ob:=t.ob.set x { roOf m j with pin:=b } }∧PinZ { m with pnw:=tput 1 m.pnw j (if b then 1 else 0) }:=by
  have hpl:=hS.pl
  have hj:=hs.1
  have hb:(if b then 1 else 0)<2 ^ 1:=by cases b <;> decide
  have e:robs { m with pnw:=tput 1 m.pnw j (if b then 1 else 0) }=(robs m).set x { roOf m j with pin:=b }:=by
    refine set_map hx (fun y=>Iff.rfl) (fun y hy hne=>roOf_same hI hy (fun c hc=>rfl) ?_) ?_
    · show tget 1 (tput 1 m.pnw j _) y=_
      rw[tget_tput_other (.inl rfl) hb (Ne.symm hne)]
    · show (⟨_,_,_,_,_,_,_,decide (tget 1 (tput 1 m.pnw j (if b then 1 else 0)) j=1)⟩:RO)=_
      rw[tget_tput_same (.inl rfl) hb (by omega)]
      cases b <;> rfl
  refine ⟨h.like h.bl (by show t.ob.set x _=_; rw[e,h.ob]) h.born rfl rfl,fun y hy hn=>?_⟩
  show tget 1 (tput 1 m.pnw j _) y=0
  have hne:y≠j:=fun e=>hn (e ▸ hs)
  rw[tget_tput_other (.inl rfl) hb (Ne.symm hne)]
  exact hP y hy hn
theorem Sim.forget (h:Sim m t):Sim { m with fw:=[] } { t with fw:=[] }:=⟨h.bl,h.ob,h.born,fun _=>rfl,rfl,trivial,trivial⟩
theorem Sim.blocks (h:Sim m t) (l:List (Int × Int)) (hl:l.length=m.bls.length):Sim { m with bls:=l } { t with bl:=l }:=by
  refine h.like rfl ?_ h.born rfl rfl
  show t.ob=_
  rw[h.ob]
  unfold robs allS
  show _=(starts { m with bls:=l } 0 (32*l.length)).map _
  rw[hl]; rfl
theorem PinZ.blocks (hP:PinZ m) (l:List (Int × Int)) (hl:l.length=m.bls.length):PinZ { m with bls:=l }:=by
  intro y hy hn
  have hy:y<32*l.length:=hy
  refine hP y (by omega) fun hs=>hn ⟨?_,hs.2⟩
  show y<32*l.length
  exact hy
end
section
open Go Go.AX
noncomputable local instance qRR:Quiet:=fullQuiet
local instance nRR:Kn:=⟨true⟩
variable {σ:AMem} {m:HM} {t:RM}
def IntsG (σ:AMem) (s:SlV) (l:List Int):Prop:=s.2.1=l.length∧(l≠[] → ∃ b c,s=(some ⟨b,0,none⟩,l.length,c)∧σ[b]?=some (.cells (inRow l) ty_int true)) ∧ ∀ a,s.1=some a → ∃ cs T w,σ[a.block]?=some (.cells cs T w)∧a.off≤cs.length
def hs (s:SlV):List Nat:=match s.1 with
  | some a=>[a.block]
  | none=>[]
theorem mem_hs {s:SlV} {b:Nat}:b ∈ hs s ↔ ∃ a,s.1=some a∧a.block=b:=by
  unfold hs
  cases s.1 with
  | none=>simp
  | some a=>simp[eq_comm]
def roCells (o:RO) (p:SlV × SlV):List Value:=[.int .i64 o.addr,.int .i64 o.id,.int .i64 o.r,.int .i64 o.d,.int .i64 o.k,.slice p.1.1 p.1.2.1 p.1.2.2,.slice p.2.1 p.2.2.1 p.2.2.2,.bool o.pin]
def obRow:List RO→List (SlV × SlV)→List Value
  | o::l,p::om=>roCells o p++obRow l om
  | _,_=>[]
theorem obRow_len:∀ (l:List RO) (om:List (SlV × SlV)),om.length=l.length→(obRow l om).length=l.length*8
  | [],[],_=>rfl
  | [],p::om,h=>by simp at h
  | o::l,[],h=>by simp at h
  | o::l,p::om,h=>by
    have:=obRow_len l om (by simpa using h)
    simp[obRow,roCells,this]; omega
theorem obRow_get:∀ (l:List RO) (om:List (SlV × SlV)) (x:Nat) (h:x<l.length) (h':x<om.length) (q:Nat),q<8→(obRow l om)[x*8+q]?=(roCells l[x] om[x])[q]?
  | [],om,x,h,_,_,_=>by simp at h
  | o::l,[],x,_,h',_,_=>by simp at h'
  | o::l,p::om,0,h,h',q,hq=>by
    simp only[obRow,Nat.zero_mul,Nat.zero_add,List.getElem_cons_zero]
    rw[List.getElem?_append_left (by simp[roCells]; omega)]
  | o::l,p::om,x+1,h,h',q,hq=>by
    have ih:=obRow_get l om x (by simpa using h) (by simpa using h') q hq
    simp only[obRow,List.getElem_cons_succ]
    rw[List.getElem?_append_right (by simp[roCells]; omega),show (x+1)*8+q-(roCells o p).length=x*8+q from by simp[roCells]; omega,ih]
def FwAt (σ:AMem) (s:SlV) (l:List (Int × Int)):Prop:=SlAt ty_api_Move 2 σ s l.length (blRow l)∨(l=[] ∧ ∃ b cs T w,s=(some ⟨b,0,some 0⟩,0,0)∧σ[b]?=some (.cells cs T w))
theorem FwAt.like {σ':AMem} {s:SlV} {l:List (Int × Int)} (h:FwAt σ s l) (hs:∀ a,s.1=some a→σ'[a.block]?=σ[a.block]?):FwAt σ' s l:=by
  rcases h with h | ⟨h0,b,cs,T,w,rfl,hc⟩
  · exact .inl (h.like hs)
  · exact .inr ⟨h0,b,cs,T,w,rfl,(hs _ rfl).trans hc⟩
theorem FwAt.form {s:SlV} {l:List (Int × Int)} (h:FwAt σ s l):s=(s.1,l.length,l.length):=by
  rcases h with h | ⟨rfl,b,cs,T,w,rfl,hc⟩
  · exact h.form
  · rfl
theorem FwAt.sl {s:SlV} {l:List (Int × Int)} (h:FwAt σ s l) {x:Nat} (hx:x<l.length):SlAt ty_api_Move 2 σ s l.length (blRow l):=by
  rcases h with h | ⟨rfl,_⟩
  · exact h
  · simp at hx
structure RI where
  hb:Nat
  bs:SlV
  os:SlV
  fs:SlV
  om:List (SlV × SlV)
def RI.l (i:RI):List Nat:=i.hb::(hs i.bs++(hs i.os++(hs i.fs++i.om.flatMap fun p=>hs p.1++hs p.2)))
structure RAt (σ:AMem) (i:RI) (t:RM):Prop where
  hp:σ[i.hb]?=some (.cells [.slice i.bs.1 i.bs.2.1 i.bs.2.2,.slice i.os.1 i.os.2.1 i.os.2.2,.slice i.fs.1 i.fs.2.1 i.fs.2.2,.int .i64 t.born] ty_dustcartref02_Heap true)
  bl:SlAt ty_dustcartref02_Block 2 σ i.bs t.bl.length (blRow t.bl)
  ob:SlAt ty_dustcartref02_Object 8 σ i.os t.ob.length (obRow t.ob i.om)
  fw:FwAt σ i.fs t.fw
  ol:i.om.length=t.ob.length
  inn:∀ (x:Nat) (h:x<t.ob.length) (h':x<i.om.length),IntsG σ i.om[x].1 t.ob[x].refs∧IntsG σ i.om[x].2 t.ob[x].data
  nd:i.l.Nodup
  lt:∀ j ∈ i.l,j<σ.length
theorem IntsG.like {σ':AMem} {s:SlV} {l:List Int} (h:IntsG σ s l) (hs:∀ b ∈ hs s,σ'[b]?=σ[b]?):IntsG σ' s l:=by
  refine ⟨h.1,fun hn=>?_,fun a ha=>?_⟩
  · obtain ⟨b,c,rfl,hc⟩:=h.2.1 hn
    exact ⟨b,c,rfl,(hs b (mem_hs.2 ⟨_,rfl,rfl⟩)).trans hc⟩
  · obtain ⟨cs,T,w,h1,h2⟩:=h.2.2 a ha
    exact ⟨cs,T,w,(hs _ (mem_hs.2 ⟨a,ha,rfl⟩)).trans h1,h2⟩
theorem RI.hb_mem (i:RI):i.hb ∈ i.l:=List.mem_cons_self
theorem RI.bs_mem (i:RI) {b:Nat} (h:b ∈ hs i.bs):b ∈ i.l:=List.mem_cons_of_mem _ (List.mem_append.2 (.inl h))
theorem RI.os_mem (i:RI) {b:Nat} (h:b ∈ hs i.os):b ∈ i.l:=List.mem_cons_of_mem _ (List.mem_append.2 (.inr (List.mem_append.2 (.inl h))))
theorem RI.fs_mem (i:RI) {b:Nat} (h:b ∈ hs i.fs):b ∈ i.l:=List.mem_cons_of_mem _ (List.mem_append.2 (.inr (List.mem_append.2 (.inr (List.mem_append.2 (.inl h))))))
theorem RI.om_mem (i:RI) {b x:Nat} (hx:x<i.om.length) (h:b ∈ hs i.om[x].1∨b ∈ hs i.om[x].2):b ∈ i.l:=
  List.mem_cons_of_mem _ (List.mem_append.2 (.inr (List.mem_append.2 (.inr (List.mem_append.2 (.inr (List.mem_flatMap.2 ⟨_,List.getElem_mem hx,List.mem_append.2 h⟩)))))))
theorem RAt.like {σ':AMem} {i:RI} (h:RAt σ i t) (hs:∀ j ∈ i.l,σ'[j]?=σ[j]?) (hl:σ.length≤σ'.length):RAt σ' i t where
  hp:=(hs _ i.hb_mem).trans h.hp
  bl:=h.bl.like fun a ha=>hs _ (i.bs_mem (mem_hs.2 ⟨a,ha,rfl⟩))
  ob:=h.ob.like fun a ha=>hs _ (i.os_mem (mem_hs.2 ⟨a,ha,rfl⟩))
  fw:=h.fw.like fun a ha=>hs _ (i.fs_mem (mem_hs.2 ⟨a,ha,rfl⟩))
  ol:=h.ol
  inn:=fun x p q=>⟨(h.inn x p q).1.like fun b hb=>hs _ (i.om_mem q (.inl hb)),(h.inn x p q).2.like fun b hb=>hs _ (i.om_mem q (.inr hb))⟩
  nd:=h.nd
  lt:=fun j hj=>Nat.lt_of_lt_of_le (h.lt j hj) hl
theorem RAt.app {i:RI} (h:RAt σ i t) (τ:AMem):RAt (σ++τ) i t:=h.like (fun j hj=>List.getElem?_append_left (h.lt j hj)) (by simp)
abbrev rptr (i:RI):Option Addr:=some ⟨i.hb,0,none⟩
variable {i:RI}
theorem RAt.ld0 (h:RAt σ i t):ldS σ i.hb 0=some (i.bs.1,t.bl.length,t.bl.length):=by
  have:=h.bl.form
  simp only[ldS,ld1,h.hp]
  rw[this]; simp[toS]
theorem RAt.ld1' (h:RAt σ i t):ldS σ i.hb 1=some (i.os.1,t.ob.length,t.ob.length):=by
  have:=h.ob.form
  simp only[ldS,ld1,h.hp]
  rw[this]; simp[toS]
theorem RAt.ld2 (h:RAt σ i t):ldS σ i.hb 2=some (i.fs.1,t.fw.length,t.fw.length):=by
  have:=h.fw.form
  simp only[ldS,ld1,h.hp]
  rw[this]; simp[toS]
theorem RAt.ld3 (h:RAt σ i t):ldI .i64 σ i.hb 3=some t.born:=by simp[ldI,ld1,h.hp,toI]
theorem pair_ld {E:TypeId} {sl:SlV} {l:List (Int × Int)} (h:SlAt E 2 σ sl l.length (blRow l)) {x:Nat} (hx:x<l.length):∃ b,sl.1=some ⟨b,0,none⟩∧ldI .i64 σ b (x*2)=some (l.getD x (0,0)).1∧ldI .i64 σ b (x*2+1)=some (l.getD x (0,0)).2∧σ[b]?=some (.cells (blRow l) E true):=by
  rcases h with ⟨h0,_⟩ | ⟨b,rfl,_,_,hc⟩
  · omega
  · obtain ⟨g0,g1⟩:=blRow_get l x hx
    rw[Nat.mul_comm] at g0 g1
    refine ⟨b,rfl, ?_, ?_,hc⟩
    · simp only[ldI,ld1,hc,g0,Option.bind_some,toI_int]
    · simp only[ldI,ld1,hc,g1,Option.bind_some,toI_int]
structure ObLd (σ:AMem) (b x:Nat) (o:RO) (p:SlV × SlV):Prop where
  l0:ldI .i64 σ b (x*8)=some o.addr
  l1:ldI .i64 σ b (x*8+1)=some o.id
  l2:ldI .i64 σ b (x*8+2)=some o.r
  l3:ldI .i64 σ b (x*8+3)=some o.d
  l4:ldI .i64 σ b (x*8+4)=some o.k
  l5:ldS σ b (x*8+5)=some (p.1.1,p.1.2.1,p.1.2.2)
  l6:ldS σ b (x*8+6)=some (p.2.1,p.2.2.1,p.2.2.2)
  l7:ldB σ b (x*8+7)=some o.pin
theorem RAt.obj (h:RAt σ i t) {x:Nat} (hx:x<t.ob.length):∃ b,i.os.1=some ⟨b,0,none⟩∧σ[b]?=some (.cells (obRow t.ob i.om) ty_dustcartref02_Object true) ∧ ∀ (h':x<i.om.length),ObLd σ b x t.ob[x] i.om[x]:=by
  rcases h.ob with ⟨h0,_⟩ | ⟨b,e,_,_,hc⟩
  · omega
  · refine ⟨b,by rw[e],hc,fun h'=>?_⟩
    have g:=fun q hq=>obRow_get t.ob i.om x hx h' q hq
    have g0:=g 0 (by decide)
    rw[Nat.add_zero] at g0
    constructor
    · simp only[ldI,ld1,hc,g0]; rfl
    · simp only[ldI,ld1,hc,g 1 (by decide)]; rfl
    · simp only[ldI,ld1,hc,g 2 (by decide)]; rfl
    · simp only[ldI,ld1,hc,g 3 (by decide)]; rfl
    · simp only[ldI,ld1,hc,g 4 (by decide)]; rfl
    · simp only[ldS,ld1,hc,g 5 (by decide)]; rfl
    · simp only[ldS,ld1,hc,g 6 (by decide)]; rfl
    · simp only[ldB,ld1,hc,g 7 (by decide)]; rfl
theorem rmade_to (k:Nat) (h:RAt σ i t) (hb:t.bl≠[]):d_ref02_Heap_Made (k+1) (rptr i) σ=some (.bool true,σ):=by
  have:0<t.bl.length:=List.length_pos_iff.2 hb
  rw[d_ref02_Heap_Made_eq,b_ref02_Heap_Made]
  simp only[eqA_ptrs,Option.bind_some,Bool.not_false,cond_true,Nat.zero_add,Nat.add_zero,h.ld0]
  rw[decide_eq_true (by omega)]
theorem rIndex_l0_to (k:Nat) (h:RAt σ i t) (hn:t.ob.length≤5000) (a:Int):∀ (n x f:Nat),x+n=t.ob.length→n<f→d_ref02_Heap_Index_l0 k f (rptr i) a (x:Int) σ=some (match rIdx (t.ob.drop x) a with | some y=>(.ret,[.int .i64 ((x+y:Nat):Int)],σ) | none=>(.exit 0,[],σ))
  | 0,x,0,hx,hf=>by omega
  | 0,x,f+1,hx,hf=>by
    rw[d_ref02_Heap_Index_l0_eq,b_ref02_Heap_Index_l0,List.drop_eq_nil_of_le (by omega)]
    have q:decide ((x:Int)<((t.ob.length:Nat):Int))=false:=decide_eq_false (by omega)
    simp only[Option.bind_some,Nat.zero_add,Nat.add_zero,h.ld1',q,cond_false,rIdx]
  | n+1,x,0,hx,hf=>by omega
  | n+1,x,f+1,hx,hf=>by
    have hxl:x<t.ob.length:=by omega
    have ih:=rIndex_l0_to k h hn a n (x+1) f (by omega) (by omega)
    obtain ⟨b,eb,_,L⟩:=h.obj hxl
    have L:=L (by rw[h.ol]; exact hxl)
    rw[List.drop_eq_getElem_cons hxl,d_ref02_Heap_Index_l0_eq,b_ref02_Heap_Index_l0,rIdx]
    have q:decide ((x:Int)<((t.ob.length:Nat):Int))=true:=decide_eq_true (by omega)
    have qx:(0≤(x:Int)∧(x:Int)<((t.ob.length:Nat):Int))=True:=eq_true (by omega)
    have w1:w64 ((x:Int)+1)=((x+1:Nat):Int):=w64_in (by unfold inI; omega)
    simp only[Option.bind_some,Nat.zero_add,Nat.add_zero,h.ld1',q,cond_true,qx,if_true,eb,Int.toNat_natCast,L.l0,w1]
    by_cases e:t.ob[x].addr=a
    · rw[if_pos e,beq_iff_eq.2 e]; simp only[cond_true,Nat.add_zero]
    · rw[if_neg e,beq_eq_false_iff_ne.2 e]
      simp only[cond_false,ih]
      cases rIdx (t.ob.drop (x+1)) a with
      | none=>rfl
      | some y=>simp only[Option.map_some,show x+(y+1)=x+1+y from by omega]
def idxI (l:List RO) (a:Int):Int:=match rIdx l a with
  | some x=>(x:Int)
  | none=>-1
theorem rIndex_to (k:Nat) (hk:5000≤k) (h:RAt σ i t) (hb:t.bl≠[]) (hn:t.ob.length≤5000) (a:Int):d_ref02_Heap_Index (k+2) (rptr i) a σ=some (.int .i64 (idxI t.ob a),σ):=by
  have e:=rIndex_l0_to (k+1) h hn a t.ob.length 0 (k+1) (by omega) (by omega)
  rw[List.drop_zero,show ((0:Nat):Int)=0 from rfl] at e
  rw[d_ref02_Heap_Index_eq,b_ref02_Heap_Index]
  simp only[rmade_to k h hb,Option.bind_some,toB_bool,Bool.not_true,cond_false,e,idxI]
  cases rIdx t.ob a with
  | none=>simp only[if_true]
  | some y=>simp only[reduceCtorEq,if_false,if_true,u_i_eq,Nat.zero_add]
theorem idxI_neg {l:List RO} {a:Int}:decide (idxI l a<0)=(rIdx l a).isNone:=by
  unfold idxI
  cases rIdx l a with
  | none=>rfl
  | some y=>exact decide_eq_false (show ¬ ((y:Nat):Int)<0 by omega)
theorem rlacks_to (k:Nat) (hk:5000≤k) (h:RAt σ i t) (hb:t.bl≠[]) (hn:t.ob.length≤5000) (a:Int):d_ref02_Heap_lacks (k+3) (rptr i) a σ=some (.int .i64 (if (rIdx t.ob a).isSome then 0 else 4),σ):=by
  rw[d_ref02_Heap_lacks_eq,b_ref02_Heap_lacks]
  simp only[rmade_to (k+1) h hb,Option.bind_some,toB_bool,Bool.not_true,cond_false,rIndex_to k hk h hb hn a,toI_int,idxI_neg]
  cases rIdx t.ob a <;> rfl
end
section
open Go Go.AX
noncomputable local instance qRS:Quiet:=fullQuiet
local instance nRS:Kn:=⟨true⟩
variable {σ:AMem} {m:HM} {t:RM} {i:RI}
structure RG (σ:AMem) (i:RI) (m:HM) (t:RM):Prop where
  at_:RAt σ i t
  sim:Sim m t
  inv:Inv m
  inv2:Inv2 m
  wl:m.wds.length=64*m.bls.length
  nb:2≤m.bls.length
  nt:m.bls.length≤64
theorem RG.app (h:RG σ i m t) (τ:AMem):RG (σ++τ) i m t:=⟨h.at_.app τ,h.sim,h.inv,h.inv2,h.wl,h.nb,h.nt⟩
theorem RG.like {σ':AMem} (h:RG σ i m t) (hs:∀ j ∈ i.l,σ'[j]?=σ[j]?) (hl:σ.length≤σ'.length):RG σ' i m t:=⟨h.at_.like hs hl,h.sim,h.inv,h.inv2,h.wl,h.nb,h.nt⟩
theorem RG.bn (h:RG σ i m t):t.bl.length=m.bls.length:=by rw[h.sim.bl]
theorem RG.ne (h:RG σ i m t):t.bl≠[]:=by
  intro e
  have:=h.bn
  have:=h.nb
  rw[e] at *
  simp at *
  omega
theorem RG.ol (h:RG σ i m t):t.ob.length≤2048:=by
  rw[h.sim.ob]
  have:=starts_len m 0 (32*m.bls.length)
  have:=h.nt
  unfold robs allS
  rw[List.length_map]
  omega
theorem rMade_g (k:Nat) (h:RG σ i m t):d_ref02_Heap_Made (k+1) (rptr i) σ=some (.bool true,σ):=rmade_to k h.at_ h.ne
theorem IntsG.ldx {s:SlV} {l:List Int} (h:IntsG σ s l) {x:Nat} (hx:x<l.length):∃ b,s.1=some ⟨b,0,none⟩∧ldI .i64 σ b x=some (l.getD x 0)∧σ[b]?=some (.cells (inRow l) ty_int true):=by
  obtain ⟨b,c,rfl,hc⟩:=h.2.1 (fun e=>by rw[e] at hx; simp at hx)
  exact ⟨b,rfl,ld_row hc hx,hc⟩
structure Found (σ:AMem) (i:RI) (m:HM) (t:RM) (a:Int) (x j b:Nat) (p:SlV × SlV):Prop where
  idx:idxI t.ob a=(x:Int)
  idx':rIdx t.ob a=some x
  xl:x<t.ob.length
  st:Start m j
  e:a=((2*j:Nat):Int)
  all:(allS m)[x]?=some j
  ob:t.ob[x]?=some (roOf m j)
  os:i.os.1=some ⟨b,0,none⟩
  cell:σ[b]?=some (.cells (obRow t.ob i.om) ty_dustcartref02_Object true)
  om:i.om[x]?=some p
  ld:ObLd σ b x (roOf m j) p
  rs:IntsG σ p.1 (roOf m j).refs
  ds:IntsG σ p.2 (roOf m j).data
theorem RG.found (h:RG σ i m t) {a:Int} (hh:hasM m a=true):∃ x j b p,Found σ i m t a x j b p:=by
  obtain ⟨h1,h2⟩:=h.sim.idx a
  cases hq:rIdx t.ob a with
  | none=>rw[h2 hq] at hh; cases hh
  | some x=>
    obtain ⟨q1,j,q2,q3,_,q5,q6⟩:=h1 x hq
    obtain ⟨b,e1,e2,L⟩:=h.at_.obj q1
    have hom:x<i.om.length:=by rw[h.at_.ol]; exact q1
    have eo:t.ob[x]=roOf m j:=by rw[List.getElem?_eq_getElem q1] at q6; exact Option.some.inj q6
    have L:=L hom
    rw[eo] at L
    obtain ⟨n1,n2⟩:=h.at_.inn x q1 hom
    rw[eo] at n1 n2
    exact ⟨x,j,b,i.om[x],by unfold idxI; rw[hq],hq,q1,q2,q3,q5,q6,e1,e2,List.getElem?_eq_getElem hom,L,n1,n2⟩
theorem RG.lost (h:RG σ i m t) {a:Int} (hh:hasM m a=false):idxI t.ob a = -1∧rIdx t.ob a=none:=by
  have:=h.sim.has a
  rw[hh] at this
  unfold idxI
  cases hq:rIdx t.ob a with
  | none=>exact ⟨rfl,rfl⟩
  | some x=>rw[hq] at this; cases this
theorem rIndex_g (k:Nat) (hk:5000≤k) (h:RG σ i m t) (a:Int):d_ref02_Heap_Index (k+2) (rptr i) a σ=some (.int .i64 (idxI t.ob a),σ):=rIndex_to k hk h.at_ h.ne (by have:=h.ol; omega) a
theorem rlacks_g (k:Nat) (hk:5000≤k) (h:RG σ i m t) (a:Int):d_ref02_Heap_lacks (k+3) (rptr i) a σ=some (.int .i64 (if hasM m a then 0 else 4),σ):=by
  rw[rlacks_to k hk h.at_ h.ne (by have:=h.ol; omega) a,h.sim.has]
theorem rHas_to (k:Nat) (hk:5000≤k) (h:RG σ i m t) (a:Int):d_ref02_Heap_Has (k+3) (rptr i) a σ=some (.bool (hasM m a),σ):=by
  rw[d_ref02_Heap_Has_eq,b_ref02_Heap_Has]
  simp only[rIndex_g k hk h a,Option.bind_some,toI_int]
  cases hh:hasM m a with
  | true=>
    obtain ⟨x,j,b,p,F⟩:=h.found hh
    rw[F.idx,decide_eq_true (by omega)]
  | false=>rw[(h.lost hh).1]; rfl
theorem ne4:((4:Int) != 0)=true:=rfl
theorem rIdent_to (k:Nat) (hk:5000≤k) (h:RG σ i m t) (a:Int):d_ref02_Heap_Ident (k+4) (rptr i) a σ=some (if hasM m a then .tuple #[.int .i64 (m.wds.getD a.toNat 0),.int .i64 0] else .tuple #[.int .i64 0,.int .i64 4],σ):=by
  rw[d_ref02_Heap_Ident_eq,b_ref02_Heap_Ident]
  have hix:=rIndex_g (k+1) (by omega) h a
  simp only[rlacks_g k hk h a,Option.bind_some,toI_int]
  cases hh:hasM m a with
  | true=>
    obtain ⟨x,j,b,p,F⟩:=h.found hh
    have hx:=F.xl
    simp only[if_true,bne_self_eq_false,cond_false,Option.bind_some,Nat.zero_add,h.at_.ld1',hix,toI_int,F.idx]
    rw[if_pos (by omega)]
    simp only[F.os,Option.bind_some,Int.toNat_natCast,Nat.zero_add,F.ld.l1]
    rw[F.e,Int.toNat_natCast]; rfl
  | false=>simp only[Bool.false_eq_true,if_false,ne4,cond_true]
theorem stN_box {σ:AMem} {cs vs:List Value} {T:TypeId} (h:vs.length=cs.length):stN (σ++[.cells cs T true]) σ.length 0 vs=some (σ++[.cells vs T true]):=by
  simp only[stN,List.getElem?_concat_length]
  rw[if_pos (by omega)]
  simp[setRange,h]
theorem stN_box2 (σ:AMem) (T:TypeId) (a b x y:Value):stN (σ++[.cells [a,b] T true]) σ.length 0 [x,y]=some (σ++[.cells [x,y] T true]):=stN_box rfl
theorem stN_box3 (σ:AMem) (T:TypeId) (a b c x y z:Value):stN (σ++[.cells [a,b,c] T true]) σ.length 0 [x,y,z]=some (σ++[.cells [x,y,z] T true]):=stN_box rfl
theorem stN_box8 (σ:AMem) (T:TypeId) (a b c d e f g h x y z u v w p q:Value):stN (σ++[.cells [a,b,c,d,e,f,g,h] T true]) σ.length 0 [x,y,z,u,v,w,p,q]=some (σ++[.cells [x,y,z,u,v,w,p,q] T true]):=stN_box rfl
theorem ldS_new (σ:AMem) (vs:List Value) (T:TypeId) (rw':Bool) (o:Nat):ldS (σ++[.cells vs T rw']) σ.length o=(vs[o]?).bind toS:=by simp[ldS,ld1]
theorem ldB_new (σ:AMem) (vs:List Value) (T:TypeId) (rw':Bool) (o:Nat):ldB (σ++[.cells vs T rw']) σ.length o=(vs[o]?).bind toB:=by simp[ldB,ld1]
def shapeV (m:HM) (j:Nat):Value:=.agg #[.int .i64 (refsAt m j),.int .i64 (dataAt m j),.int .i64 (kindAt m j)]
def shape0:Value:=.agg #[.int .i64 0,.int .i64 0,.int .i64 0]
theorem rShape_to (k:Nat) (hk:5000≤k) (h:RG σ i m t) (a:Int):∃ τ,d_ref02_Heap_Shape (k+4) (rptr i) a σ=some (.tuple #[if hasM m a then shapeV m (a.toNat/2) else shape0,.int .i64 (if hasM m a then 0 else 4)],σ++τ):=by
  rw[d_ref02_Heap_Shape_eq,b_ref02_Heap_Shape]
  simp only[allocK]
  have h1:=h.app [AObj.cells [.int .i64 (0:Int),.int .i64 (0:Int),.int .i64 (0:Int)] ty_api_Shape true]
  have hix:=rIndex_g (k+1) (by omega) h1 a
  simp only[rlacks_g k hk h1 a,Option.bind_some,toI_int]
  have hN:∀ x y z:Value,ldN (σ++[AObj.cells [x,y,z] ty_api_Shape true]) σ.length 0 3=some [x,y,z]:=fun x y z=>by simp[ldN]
  cases hh:hasM m a with
  | true=>
    obtain ⟨x,j,b,p,F⟩:=h1.found hh
    have hx:=F.xl
    refine ⟨[AObj.cells [.int .i64 (refsAt m j),.int .i64 (dataAt m j),.int .i64 (kindAt m j)] ty_api_Shape true], ?_⟩
    simp only[if_true,bne_self_eq_false,cond_false,Option.bind_some,Nat.zero_add,h1.at_.ld1',hix,toI_int,F.idx]
    rw[if_pos (by omega)]
    simp only[F.os,Option.bind_some,Int.toNat_natCast,Nat.zero_add,Nat.add_assoc,Nat.reduceAdd,F.ld.l2,F.ld.l3,F.ld.l4,stN_box3,hN,resOf]
    rw[F.e,Int.toNat_natCast,show 2*j/2=j from by omega]; rfl
  | false=>
    refine ⟨[AObj.cells [.int .i64 0,.int .i64 0,.int .i64 0] ty_api_Shape true], ?_⟩
    simp only[Bool.false_eq_true,if_false,ne4,cond_true,stN_box3,Option.bind_some,hN,resOf]
    rfl
def refR (m:HM) (a x:Int) (data:Bool):Int × Int:=if (fieldM m a x data).2=0 then (m.wds.getD (fieldM m a x data).1.toNat 0,0) else (0,(fieldM m a x data).2)
theorem segL_getD (m:HM) {n a q:Nat} (h:q<n):(segL m a n).getD q 0=m.wds.getD (a+q) 0:=by
  rw[List.getD_eq_getElem?_getD,segL_get m n a q h]; rfl
theorem rRef_to (k:Nat) (hk:5000≤k) (h:RG σ i m t) (a x:Int):∃ τ,d_ref02_Heap_Ref (k+4) (rptr i) a x σ=some (.tuple #[.int .i64 (refR m a x false).1,.int .i64 (refR m a x false).2],σ++τ):=by
  rw[d_ref02_Heap_Ref_eq,b_ref02_Heap_Ref]
  have hix:=rIndex_g (k+1) (by omega) h a
  simp only[rlacks_g k hk h a,Option.bind_some,toI_int]
  unfold refR fieldM
  cases hh:hasM m a with
  | true=>
    obtain ⟨y,j,b,p,F⟩:=h.found hh
    have hx:=F.xl
    obtain ⟨_,r1,r2,r3,r4,_⟩:=word1 h.inv F.st
    have rl:p.1.2.1=(refsAt m j).toNat:=by rw[F.rs.1]; exact segL_length _ _ _
    have ea:a.toNat/2=j:=by rw[F.e,Int.toNat_natCast]; omega
    simp only[if_true,bne_self_eq_false,cond_false,Option.bind_some,Nat.zero_add,h.at_.ld1',hix,toI_int,F.idx]
    rw[if_pos (by omega)]
    simp only[F.os,Option.bind_some,Int.toNat_natCast,Nat.zero_add,Nat.add_assoc,Nat.reduceAdd,F.ld.l0,F.ld.l1,F.ld.l2,F.ld.l3,F.ld.l4,F.ld.l5,F.ld.l6,F.ld.l7,allocK,stN_box8,ldS_new,List.getElem?_cons_succ,List.getElem?_cons_zero,toS,ea,rl]
    have F':=F.rs.like (σ':=σ++[.cells [.int .i64 (roOf m j).addr,.int .i64 (roOf m j).id,.int .i64 (roOf m j).r,.int .i64 (roOf m j).d,.int .i64 (roOf m j).k,.slice p.1.1 p.1.2.1 p.1.2.2,.slice p.2.1 p.2.2.1 p.2.2.2,.bool (roOf m j).pin] ty_dustcartref02_Object true]) (fun q hq=>List.getElem?_append_left (h.at_.lt _ (i.om_mem (by rw[h.at_.ol]; exact hx) (.inl (by
      have:=F.om; rw[List.getElem?_eq_getElem (by rw[h.at_.ol]; exact hx)] at this; rw[Option.some.inj this]; exact hq)))))
    rw[rl] at F'
    refine ⟨[.cells [.int .i64 (roOf m j).addr,.int .i64 (roOf m j).id,.int .i64 (roOf m j).r,.int .i64 (roOf m j).d,.int .i64 (roOf m j).k,.slice p.1.1 (refsAt m j).toNat p.1.2.2,.slice p.2.1 p.2.2.1 p.2.2.2,.bool (roOf m j).pin] ty_dustcartref02_Object true], ?_⟩
    by_cases hxx:0≤x∧x<refsAt m j
    · obtain ⟨n,rfl⟩:∃ n:Nat,x=(n:Int):=⟨x.toNat,by omega⟩
      rw[decide_eq_false (show ¬ (n:Int)<0 by omega),decide_eq_false (show ¬ (n:Int)≥(((refsAt m j).toNat:Nat):Int) by omega)]
      obtain ⟨b2,e2,l2,_⟩:=F'.ldx (x:=n) (by show n<(segL m _ _).length; rw[segL_length]; omega)
      have qx:(0≤(n:Int)∧(n:Int)<(((refsAt m j).toNat:Nat):Int))=True:=eq_true (by omega)
      have hxx':(0≤(n:Int)∧(n:Int)<refsAt m j)=True:=eq_true hxx
      rw[e2] at l2
      simp only[cond_false,Option.bind_some,ldS_new,List.getElem?_cons_succ,List.getElem?_cons_zero,toS,qx,if_true,e2,Int.toNat_natCast,Nat.zero_add,Nat.mul_one,l2,Bool.false_eq_true,if_false,hxx']
      rw[show (roOf m j).refs.getD n 0=m.wds.getD (2*j+2+n) 0 from segL_getD m (by omega),F.e]
      rw[show (((2*j:Nat):Int)+2+0+(n:Int)).toNat=2*j+2+n from by omega]
    · simp only[Bool.false_eq_true,if_false,hxx]
      by_cases h0:x<0
      · rw[decide_eq_true h0]
        simp only[cond_true,Option.bind_some]
        rfl
      · rw[decide_eq_false h0,decide_eq_true (show x≥(((refsAt m j).toNat:Nat):Int) by omega)]
        simp only[cond_false,cond_true,Option.bind_some]
        rfl
  | false=>
    refine ⟨[], ?_⟩
    simp only[Bool.false_eq_true,if_false,ne4,cond_true,List.append_nil]
    rfl
theorem rData_to (k:Nat) (hk:5000≤k) (h:RG σ i m t) (a x:Int):∃ τ,d_ref02_Heap_Data (k+4) (rptr i) a x σ=some (.tuple #[.int .i64 (refR m a x true).1,.int .i64 (refR m a x true).2],σ++τ):=by
  rw[d_ref02_Heap_Data_eq,b_ref02_Heap_Data]
  have hix:=rIndex_g (k+1) (by omega) h a
  simp only[rlacks_g k hk h a,Option.bind_some,toI_int]
  unfold refR fieldM
  cases hh:hasM m a with
  | true=>
    obtain ⟨y,j,b,p,F⟩:=h.found hh
    have hx:=F.xl
    obtain ⟨_,r1,r2,r3,r4,_⟩:=word1 h.inv F.st
    have rl:p.2.2.1=(dataAt m j).toNat:=by rw[F.ds.1]; exact segL_length _ _ _
    have ea:a.toNat/2=j:=by rw[F.e,Int.toNat_natCast]; omega
    simp only[if_true,bne_self_eq_false,cond_false,Option.bind_some,Nat.zero_add,h.at_.ld1',hix,toI_int,F.idx]
    rw[if_pos (by omega)]
    simp only[F.os,Option.bind_some,Int.toNat_natCast,Nat.zero_add,Nat.add_assoc,Nat.reduceAdd,F.ld.l0,F.ld.l1,F.ld.l2,F.ld.l3,F.ld.l4,F.ld.l5,F.ld.l6,F.ld.l7,allocK,stN_box8,ldS_new,List.getElem?_cons_succ,List.getElem?_cons_zero,toS,ea,rl]
    have F':=F.ds.like (σ':=σ++[.cells [.int .i64 (roOf m j).addr,.int .i64 (roOf m j).id,.int .i64 (roOf m j).r,.int .i64 (roOf m j).d,.int .i64 (roOf m j).k,.slice p.1.1 p.1.2.1 p.1.2.2,.slice p.2.1 p.2.2.1 p.2.2.2,.bool (roOf m j).pin] ty_dustcartref02_Object true]) (fun q hq=>List.getElem?_append_left (h.at_.lt _ (i.om_mem (by rw[h.at_.ol]; exact hx) (.inr (by
      have:=F.om; rw[List.getElem?_eq_getElem (by rw[h.at_.ol]; exact hx)] at this; rw[Option.some.inj this]; exact hq)))))
    rw[rl] at F'
    refine ⟨[.cells [.int .i64 (roOf m j).addr,.int .i64 (roOf m j).id,.int .i64 (roOf m j).r,.int .i64 (roOf m j).d,.int .i64 (roOf m j).k,.slice p.1.1 p.1.2.1 p.1.2.2,.slice p.2.1 (dataAt m j).toNat p.2.2.2,.bool (roOf m j).pin] ty_dustcartref02_Object true], ?_⟩
    by_cases hxx:0≤x∧x<dataAt m j
    · obtain ⟨n,rfl⟩:∃ n:Nat,x=(n:Int):=⟨x.toNat,by omega⟩
      rw[decide_eq_false (show ¬ (n:Int)<0 by omega),decide_eq_false (show ¬ (n:Int)≥(((dataAt m j).toNat:Nat):Int) by omega)]
      obtain ⟨b2,e2,l2,_⟩:=F'.ldx (x:=n) (by show n<(segL m _ _).length; rw[segL_length]; omega)
      have qx:(0≤(n:Int)∧(n:Int)<(((dataAt m j).toNat:Nat):Int))=True:=eq_true (by omega)
      have hxx':(0≤(n:Int)∧(n:Int)<dataAt m j)=True:=eq_true hxx
      rw[e2] at l2
      simp only[cond_false,Option.bind_some,ldS_new,List.getElem?_cons_succ,List.getElem?_cons_zero,toS,qx,if_true,e2,Int.toNat_natCast,Nat.zero_add,Nat.mul_one,l2,hxx']
      rw[show (roOf m j).data.getD n 0=m.wds.getD (2*j+2+(refsAt m j).toNat+n) 0 from segL_getD m (by omega),F.e]
      rw[show (((2*j:Nat):Int)+2+refsAt m j+(n:Int)).toNat=2*j+2+(refsAt m j).toNat+n from by omega]
    · simp only[if_true,hxx,if_false]
      by_cases h0:x<0
      · rw[decide_eq_true h0]
        simp only[cond_true,Option.bind_some]
        rfl
      · rw[decide_eq_false h0,decide_eq_true (show x≥(((dataAt m j).toNat:Nat):Int) by omega)]
        simp only[cond_false,cond_true,Option.bind_some]
        rfl
  | false=>
    refine ⟨[], ?_⟩
    simp only[Bool.false_eq_true,if_false,ne4,cond_true,List.append_nil]
    rfl
theorem rPinned_to (k:Nat) (hk:5000≤k) (h:RG σ i m t) (a:Int):d_ref02_Heap_Pinned (k+3) (rptr i) a σ=some (.bool (pinM m a),σ):=by
  rw[d_ref02_Heap_Pinned_eq,b_ref02_Heap_Pinned]
  simp only[rIndex_g k hk h a,Option.bind_some,toI_int]
  unfold pinM
  cases hh:hasM m a with
  | true=>
    obtain ⟨x,j,b,p,F⟩:=h.found hh
    have hx:=F.xl
    rw[F.idx,decide_eq_true (by omega)]
    simp only[cond_true,Option.bind_some,Nat.zero_add,h.at_.ld1']
    rw[if_pos (by omega)]
    simp only[F.os,Option.bind_some,Int.toNat_natCast,Nat.zero_add,F.ld.l7,Bool.true_and]
    rw[F.e,Int.toNat_natCast,show 2*j/2=j from by omega]; rfl
  | false=>rw[(h.lost hh).1]; rfl
theorem rBlocks_to (k:Nat) (h:RG σ i m t):d_ref02_Heap_Blocks (k+2) (rptr i) σ=some (.int .i64 ((m.bls.length:Nat):Int),σ):=by
  rw[d_ref02_Heap_Blocks_eq,b_ref02_Heap_Blocks]
  simp only[rMade_g k h,Option.bind_some,toB_bool,Bool.not_true,cond_false,Nat.zero_add,Nat.add_zero,h.at_.ld0,h.bn]
theorem rBirths_to (k:Nat) (h:RG σ i m t):d_ref02_Heap_Births (k+2) (rptr i) σ=some (.int .i64 m.births,σ):=by
  rw[d_ref02_Heap_Births_eq,b_ref02_Heap_Births]
  simp only[rMade_g k h,Option.bind_some,toB_bool,Bool.not_true,cond_false,Nat.zero_add,h.at_.ld3,h.sim.born]
def stateI (m:HM) (b:Int):Int:=if 0≤b∧b<(m.bls.length:Int) then (m.bls.getD b.toNat (0,0)).1 else -1
def spaceI (m:HM) (b:Int):Int:=if 0≤b∧b<(m.bls.length:Int) then (m.bls.getD b.toNat (0,0)).2 else -1
theorem rState_to (k:Nat) (h:RG σ i m t) (b:Int):d_ref02_Heap_State (k+2) (rptr i) b σ=some (.int .i64 (stateI m b),σ):=by
  rw[d_ref02_Heap_State_eq,b_ref02_Heap_State]
  simp only[rMade_g k h,Option.bind_some,toB_bool,Bool.not_true,cond_false]
  unfold stateI
  by_cases h0:b<0
  · rw[decide_eq_true h0,if_neg (by omega)]
    simp only[cond_true,Option.bind_some]
  rw[decide_eq_false h0]
  simp only[cond_false,Option.bind_some,Nat.zero_add,Nat.add_zero,h.at_.ld0,h.bn]
  by_cases h1:b≥(m.bls.length:Int)
  · have q:(0≤b∧b<(m.bls.length:Int))=False:=eq_false (by omega)
    simp only[decide_eq_true h1,q,if_false,cond_true]
  rw[decide_eq_false h1,if_pos (by omega),if_pos (by omega)]
  obtain ⟨n,rfl⟩:∃ n:Nat,b=(n:Int):=⟨b.toNat,by omega⟩
  obtain ⟨q,e,l0,l1,_⟩:=pair_ld h.at_.bl (x:=n) (by rw[h.bn]; omega)
  rw[h.sim.bl] at l0
  simp only[cond_false,e,Option.bind_some,Int.toNat_natCast,Nat.zero_add,l0]
theorem rSpace_to (k:Nat) (h:RG σ i m t) (b:Int):d_ref02_Heap_Space (k+2) (rptr i) b σ=some (.int .i64 (spaceI m b),σ):=by
  rw[d_ref02_Heap_Space_eq,b_ref02_Heap_Space]
  simp only[rMade_g k h,Option.bind_some,toB_bool,Bool.not_true,cond_false]
  unfold spaceI
  by_cases h0:b<0
  · rw[decide_eq_true h0,if_neg (by omega)]
    simp only[cond_true,Option.bind_some]
  rw[decide_eq_false h0]
  simp only[cond_false,Option.bind_some,Nat.zero_add,Nat.add_zero,h.at_.ld0,h.bn]
  by_cases h1:b≥(m.bls.length:Int)
  · have q:(0≤b∧b<(m.bls.length:Int))=False:=eq_false (by omega)
    simp only[decide_eq_true h1,q,if_false,cond_true]
  rw[decide_eq_false h1,if_pos (by omega),if_pos (by omega)]
  obtain ⟨n,rfl⟩:∃ n:Nat,b=(n:Int):=⟨b.toNat,by omega⟩
  obtain ⟨q,e,l0,l1,_⟩:=pair_ld h.at_.bl (x:=n) (by rw[h.bn]; omega)
  rw[h.sim.bl] at l1
  simp only[cond_false,e,Option.bind_some,Int.toNat_natCast,Nat.zero_add,l1]
theorem rForward_l0_to (k:Nat) (h:RAt σ i t) (hn:t.fw.length≤100000) (a:Int):∀ (n x f:Nat),x+n=t.fw.length→n<f→d_ref02_Heap_Forward_l0 k f (rptr i) a (x:Int) σ=some (match getM (t.fw.drop x) a with | some v=>(.ret,[.int .i64 v,.int .i64 0],σ) | none=>(.exit 0,[],σ))
  | 0,x,0,hx,hf=>by omega
  | 0,x,f+1,hx,hf=>by
    rw[d_ref02_Heap_Forward_l0_eq,b_ref02_Heap_Forward_l0,List.drop_eq_nil_of_le (by omega)]
    have q:decide ((x:Int)<((t.fw.length:Nat):Int))=false:=decide_eq_false (by omega)
    simp only[Option.bind_some,Nat.zero_add,Nat.add_zero,h.ld2,q,cond_false,getM,List.find?_nil,Option.map_none]
  | n+1,x,0,hx,hf=>by omega
  | n+1,x,f+1,hx,hf=>by
    have hxl:x<t.fw.length:=by omega
    have ih:=rForward_l0_to k h hn a n (x+1) f (by omega) (by omega)
    obtain ⟨b,e,l0,l1,_⟩:=pair_ld (h.fw.sl hxl) hxl
    rw[List.getD_eq_getElem?_getD,List.getElem?_eq_getElem hxl,Option.getD_some] at l0 l1
    rw[List.drop_eq_getElem_cons hxl,d_ref02_Heap_Forward_l0_eq,b_ref02_Heap_Forward_l0]
    have eg:getM (t.fw[x]::t.fw.drop (x+1)) a=if a=t.fw[x].1 then some t.fw[x].2 else getM (t.fw.drop (x+1)) a:=getM_cons _ _ _ _
    rw[eg]
    have q:decide ((x:Int)<((t.fw.length:Nat):Int))=true:=decide_eq_true (by omega)
    have qx:(0≤(x:Int)∧(x:Int)<((t.fw.length:Nat):Int))=True:=eq_true (by omega)
    have w1:w64 ((x:Int)+1)=((x+1:Nat):Int):=w64_in (by unfold inI; omega)
    simp only[Option.bind_some,Nat.zero_add,Nat.add_zero,h.ld2,q,cond_true,qx,if_true,e,Int.toNat_natCast,l0,l1,w1]
    by_cases ea:a=t.fw[x].1
    · rw[if_pos ea,beq_iff_eq.2 ea.symm]; simp only[cond_true]
    · rw[if_neg ea,beq_eq_false_iff_ne.2 (Ne.symm ea)]
      simp only[cond_false,ih]
theorem rForward_to (k:Nat) (h:RG σ i m t) (hn:t.fw.length≤k) (hn1:t.fw.length≤100000) (a:Int):d_ref02_Heap_Forward (k+2) (rptr i) a σ=some (.tuple #[.int .i64 (fwdM m a),.int .i64 (if (getM m.fw a).isSome then 0 else 4)],σ):=by
  have e:=rForward_l0_to (k+1) h.at_ hn1 a t.fw.length 0 (k+1) (by omega) (by omega)
  rw[List.drop_zero,h.sim.fw a,show ((0:Nat):Int)=0 from rfl] at e
  rw[d_ref02_Heap_Forward_eq,b_ref02_Heap_Forward]
  simp only[rMade_g k h,Option.bind_some,toB_bool,Bool.not_true,cond_false,e]
  unfold fwdM
  cases getM m.fw a with
  | none=>simp only[if_true]; rfl
  | some v=>simp only[reduceCtorEq,if_false,if_true,u_ii_eq]; rfl
end
section
open Go Go.AX
noncomputable local instance qRT:Quiet:=fullQuiet
local instance nRT:Kn:=⟨true⟩
variable {σ:AMem} {m:HM} {t:RM} {i:RI}
theorem ref_Valid_to (k:Nat) (a b c:Int) (σ:AMem):Adds (d_ref02_Valid (k+1) a b c σ) σ (.bool (valid a b c)):=by
  simp only[Adds,d_ref02_Valid_eq,b_ref02_Valid,allocK,ldI_new,Nat.zero_add,List.getElem?_cons_zero,List.getElem?_cons_succ,Option.bind_some,toI_int,pair_bif]
  by_cases hA:a<0∨a>15∨b<0∨b>200
  · have h1:(bif bif bif decide (a<0) then true else decide (a>15) then true else decide (b<0) then true else decide (b>200))=true:=by
      simp[Bool.cond_eq_ite]; omega
    have h2:valid a b c=false:=by simp[valid]; omega
    rw[h1,h2]
    exact ⟨_,rfl⟩
  · have h1:(bif bif bif decide (a<0) then true else decide (a>15) then true else decide (b<0) then true else decide (b>200))=false:=by
      simp[Bool.cond_eq_ite]; omega
    rw[h1]
    simp only[cond_false]
    by_cases h0:c=0
    · subst h0
      have h2:valid a b 0=true:=by simp[valid]; omega
      rw[h2]
      exact ⟨_,rfl⟩
    have e0:(c == 0)=false:=by simpa using h0
    by_cases h3:c=3
    · subst h3
      have h2:valid a b 3=true:=by simp[valid]; omega
      rw[h2]
      exact ⟨_,rfl⟩
    have e3:(c == 3)=false:=by simpa using h3
    simp only[e0,e3,cond_false,Option.bind_some,if_true,u_t_eq]
    by_cases h4:c=1
    · subst h4
      have h2:valid a b 1=decide (a≥1):=by rw[valid,decide_eq_decide]; simp; omega
      rw[h2]
      simp only[BEq.rfl,cond_true,ldI_new,List.getElem?_cons_zero,Option.bind_some,toI_int]
      exact ⟨_,rfl⟩
    have e4:(c == 1)=false:=by simpa using h4
    by_cases h5:c=2
    · subst h5
      have h2:valid a b 2=decide (a≥2):=by rw[valid,decide_eq_decide]; simp; omega
      rw[h2]
      simp only[e4,cond_false,BEq.rfl,cond_true,ldI_new,List.getElem?_cons_zero,Option.bind_some,toI_int]
      exact ⟨_,rfl⟩
    have e5:(c == 2)=false:=by simpa using h5
    have h2:valid a b c=false:=by simp[valid]; omega
    simp only[e4,e5,cond_false,h2]
    exact ⟨_,rfl⟩
theorem ref_Words_to (k:Nat) (a b c:Int) (σ:AMem):Adds (d_ref02_Words (k+2) a b c σ) σ (.int .i64 (words a b c)):=by
  unfold Adds
  rw[d_ref02_Words_eq,b_ref02_Words]
  simp only[allocK,ldI_new,Nat.zero_add,List.getElem?_cons_zero,List.getElem?_cons_succ,Option.bind_some,toI_int]
  rw[(ref_Valid_to _ _ _ _ _).eq]
  simp only[Option.bind_some,toB_bool,ldI_newapp,List.getElem?_cons_zero,List.getElem?_cons_succ,toI_int]
  unfold words
  rcases Bool.eq_false_or_eq_true (valid a b c) with hv | hv
  rotate_left
  · simp only[hv,Bool.not_false,cond_true,cond_false,List.append_assoc]
    exact ⟨_,rfl⟩
  · simp only[hv,Bool.not_true,cond_true,cond_false,List.append_assoc]
    simp[valid] at hv
    simp only[show ((2:Int)=0)=False from by simp,if_false]
    refine ⟨_,congrArg some (Prod.ext (congrArg (Value.int .i64) ?_) rfl)⟩
    simp only[w64]
    have e1:IntKind.i64.wrap (2+a)=2+a:=by rw[IntKind.wrap_i64]; omega
    have e2:IntKind.i64.wrap (2+a+b)=2+a+b:=by rw[IntKind.wrap_i64]; omega
    rw[e1,e2,Int.tmod_eq_emod_of_nonneg (by omega),IntKind.wrap_i64]
    omega
theorem push_behind {E:TypeId} {s by_:Nat} {z:Value} (hs:szOf P E=some s) (hb:bytesOf P E=some by_) (hz:zerosOf P E=some z) (hz1:isTup z=false) (hz2:z.cells.size=s) (hs0:0<s) (hb0:0<by_) (hb1:by_≤1000)
    (σ τ:AMem) (sl:SlV) (n:Nat) (row:List Value) (n' c:Nat) (row':List Value) (T:TypeId) (hn:n+n'≤1000000) (hn0:0<n') (hr:row'.length=n'*s) (hsl:SlAt E s (σ++τ) sl n row) (hbh:∀ a,sl.1=some a→σ.length≤a.block):
    ∃ s' τ',appendD P E sl (some ⟨(σ++τ).length,0,none⟩,n',c) (σ++τ++[.cells row' T true])=some (s',σ++τ')∧SlAt E s (σ++τ') s' (n+n') (row++row')∧(∀ a,s'.1=some a→σ.length≤a.block):=by
  obtain ⟨s',σ',e,g,h⟩:=push_any hs hb hz hz1 hz2 hs0 hb0 hb1 (σ++τ) sl n row n' c row' T hn hn0 hr hsl
  obtain ⟨⟨τ',rfl⟩,h2⟩:=g.behind hbh
  exact ⟨s',τ',e,h,h2⟩
theorem SlAt.ints {lo:Nat} {s:SlV} {l:List Int} (h:SlAt ty_int 1 σ s l.length (inRow l)) (hl:∀ a,s.1=some a→lo≤a.block) (hne:l=[]→s=(none,0,0)):IntsAt lo σ s l:=by
  by_cases e:l=[]
  · exact .inl ⟨e,hne e⟩
  · rcases h with ⟨h1,_,_⟩ | ⟨b,rfl,_,_,hc⟩
    · exact absurd (List.length_eq_zero_iff.1 h1) e
    · exact .inr ⟨b,hl _ rfl,rfl,e,hc⟩
theorem int_behind (σ τ:AMem) (s:SlV) (l:List Int) (x:Int) (hl:l.length≤900000) (hs:IntsAt σ.length (σ++τ) s l):
    ∃ s' τ',appendD P ty_int s (some ⟨(σ++τ).length,0,none⟩,1,1) (σ++τ++[.cells [.int .i64 x] ty_int true])=some (s',σ++τ')∧IntsAt σ.length (σ++τ') s' (l++[x]):=by
  obtain ⟨s',τ',e,h1,h2⟩:=push_behind sz3 by3 zz3 rfl rfl (by decide) (by decide) (by decide) σ τ s l.length (inRow l) 1 1 [.int .i64 x] ty_int (by omega) (by decide) rfl hs.sl (fun a ha=>(hs.ge a ha).1)
  refine ⟨s',τ',e,SlAt.ints ?_ h2 (fun e=>by simp at e)⟩
  rw[inRow_append,List.length_append]
  exact h1
theorem RG.drop (h:RG σ i m t) {x:Nat} (hx:x<t.ob.length):∃ j,(allS m)[x]?=some j∧x<(allS m).length∧Start m j∧t.ob[x]?=some (roOf m j):=by
  have hl:t.ob.length=(allS m).length:=by rw[h.sim.ob]; simp[robs]
  have hx':x<(allS m).length:=by omega
  refine ⟨(allS m)[x],List.getElem?_eq_getElem hx',hx',mem_allS.1 (List.getElem_mem hx'), ?_⟩
  rw[h.sim.ob]
  unfold robs
  rw[List.getElem?_map,List.getElem?_eq_getElem hx']; rfl
theorem RG.alen (h:RG σ i m t):t.ob.length=(allS m).length:=by rw[h.sim.ob]; simp[robs]
structure At (σ:AMem) (i:RI) (m:HM) (t:RM) (x j b:Nat) (p:SlV × SlV):Prop where
  st:Start m j
  all:(allS m)[x]?=some j
  xl:x<(allS m).length
  os:i.os.1=some ⟨b,0,none⟩
  cell:σ[b]?=some (.cells (obRow t.ob i.om) ty_dustcartref02_Object true)
  om:i.om[x]?=some p
  ld:ObLd σ b x (roOf m j) p
  lt:j<2048
  dr:(allS m).drop x=j::(allS m).drop (x+1)
theorem RG.ath (h:RG σ i m t) {x:Nat} (hx:x<t.ob.length):∃ j b p,At σ i m t x j b p:=by
  obtain ⟨j,h1,h2,h3,h4⟩:=h.drop hx
  obtain ⟨b,e1,e2,L⟩:=h.at_.obj hx
  have hom:x<i.om.length:=by rw[h.at_.ol]; exact hx
  have eo:t.ob[x]=roOf m j:=by rw[List.getElem?_eq_getElem hx] at h4; exact Option.some.inj h4
  have L:=L hom
  rw[eo] at L
  have:=h3.1
  have:=h.nt
  refine ⟨j,b,i.om[x],h3,h1,h2,e1,e2,List.getElem?_eq_getElem hom,L,by omega, ?_⟩
  rw[List.drop_eq_getElem_cons h2]
  rw[List.getElem?_eq_getElem h2] at h1
  rw[Option.some.inj h1]
theorem rAll_l0_to (k:Nat) (h:RG σ i m t):∀ (n x f:Nat) (τ:AMem) (s:SlV),x+n=t.ob.length→IntsAt σ.length (σ++τ) s (addrs ((allS m).take x))→n<f →
    ∃ τ' s',d_ref02_Heap_All_l0 (k+1) f (rptr i) s (x:Int) (σ++τ)=some (.exit 0,[.slice s'.1 s'.2.1 s'.2.2],σ++τ')∧IntsAt σ.length (σ++τ') s' (addrs (allS m))
  | 0,x,0,τ,s,hx,hs,hf=>by omega
  | 0,x,f+1,τ,s,hx,hs,hf=>by
    have ha:=h.alen
    have hg:=h.app τ
    rw[d_ref02_Heap_All_l0_eq,b_ref02_Heap_All_l0]
    have q:decide ((x:Int)<((t.ob.length:Nat):Int))=false:=decide_eq_false (by omega)
    rw[List.take_of_length_le (by omega)] at hs
    exact ⟨τ,s,by simp only[rMade_g k hg,Option.bind_some,toB_bool,cond_true,Nat.zero_add,hg.at_.ld1',q,cond_false],hs⟩
  | n+1,x,0,τ,s,hx,hs,hf=>by omega
  | n+1,x,f+1,τ,s,hx,hs,hf=>by
    have hol:=h.ol
    have hxl:x<t.ob.length:=by omega
    have hg:=h.app τ
    obtain ⟨j,b,p,A⟩:=hg.ath hxl
    obtain ⟨s1,τ1,e1,i1⟩:=int_behind σ τ s _ ((2*j:Nat):Int) (by simp[addrs]; omega) hs
    have e1':appendD P ty_int (s.1,s.2.1,s.2.2) (some ⟨(σ++τ).length,0,none⟩,1,1) (σ++τ++[.cells [.int .i64 ((2*j:Nat):Int)] ty_int true])=_:=e1
    obtain ⟨τ2,s2,e2,i2⟩:=rAll_l0_to k h n (x+1) f τ1 s1 (by omega) (by
      have:(allS m).take (x+1)=(allS m).take x++[j]:=by rw[List.take_add_one,A.all]; rfl
      rw[this]
      simpa [addrs] using i1) (by omega)
    refine ⟨τ2,s2, ?_,i2⟩
    rw[d_ref02_Heap_All_l0_eq,b_ref02_Heap_All_l0]
    have q:decide ((x:Int)<((t.ob.length:Nat):Int))=true:=decide_eq_true (by omega)
    have qx:(0≤(x:Int)∧(x:Int)<((t.ob.length:Nat):Int))=True:=eq_true (by omega)
    have w1:w64 ((x:Int)+1)=((x+1:Nat):Int):=w64_in (by unfold inI; omega)
    have l0:ldI .i64 (σ++τ) b (x*8)=some ((2*j:Nat):Int):=A.ld.l0
    simp only[rMade_g k hg,Option.bind_some,toB_bool,cond_true,Nat.zero_add,Nat.add_zero,hg.at_.ld1',q,qx,if_true,A.os,Int.toNat_natCast,l0,allocK,e1',w1]
    exact e2
theorem rAll_to (k:Nat) (hk:5000≤k) (h:RG σ i m t):∃ τ s,d_ref02_Heap_All (k+2) (rptr i) σ=some (.slice s.1 s.2.1 s.2.2,σ++τ)∧IntsAt σ.length (σ++τ) s (addrs (allS m)):=by
  have hol:=h.ol
  obtain ⟨τ,s,e,hs⟩:=rAll_l0_to k h t.ob.length 0 (k+1) [] (none,0,0) (by omega) (.inl ⟨rfl,rfl⟩) (by omega)
  rw[List.append_nil,show ((0:Nat):Int)=0 from rfl] at e
  refine ⟨τ,s, ?_,hs⟩
  rw[d_ref02_Heap_All_eq,b_ref02_Heap_All]
  simp only[e,Option.bind_some,if_true,u_l_eq]
def inB (L:List Nat) (b:Int):List Nat:=L.filter fun j=>decide (((2*j/64:Nat):Int)=b)
theorem rObjects_l0_to (k:Nat) (h:RG σ i m t) (bk:Int):∀ (n x f:Nat) (τ:AMem) (s:SlV),x+n=t.ob.length→IntsAt σ.length (σ++τ) s (addrs (inB ((allS m).take x) bk))→n<f →
    ∃ τ' s',d_ref02_Heap_Objects_l0 (k+1) f (rptr i) bk s (x:Int) (σ++τ)=some (.exit 0,[.slice s'.1 s'.2.1 s'.2.2],σ++τ')∧IntsAt σ.length (σ++τ') s' (addrs (inB (allS m) bk))
  | 0,x,0,τ,s,hx,hs,hf=>by omega
  | 0,x,f+1,τ,s,hx,hs,hf=>by
    have ha:=h.alen
    have hg:=h.app τ
    rw[d_ref02_Heap_Objects_l0_eq,b_ref02_Heap_Objects_l0]
    have q:decide ((x:Int)<((t.ob.length:Nat):Int))=false:=decide_eq_false (by omega)
    rw[List.take_of_length_le (by omega)] at hs
    exact ⟨τ,s,by simp only[rMade_g k hg,Option.bind_some,toB_bool,cond_true,Nat.zero_add,hg.at_.ld1',q,cond_false],hs⟩
  | n+1,x,0,τ,s,hx,hs,hf=>by omega
  | n+1,x,f+1,τ,s,hx,hs,hf=>by
    have hol:=h.ol
    have hxl:x<t.ob.length:=by omega
    have hg:=h.app τ
    obtain ⟨j,b,p,A⟩:=hg.ath hxl
    have hjl:=A.lt
    have q:decide ((x:Int)<((t.ob.length:Nat):Int))=true:=decide_eq_true (by omega)
    have qx:(0≤(x:Int)∧(x:Int)<((t.ob.length:Nat):Int))=True:=eq_true (by omega)
    have w1:w64 ((x:Int)+1)=((x+1:Nat):Int):=w64_in (by unfold inI; omega)
    have w2:w64 ((((2*j:Nat):Int)).tdiv 64)=((2*j/64:Nat):Int):=by rw[show (((2*j:Nat):Int)).tdiv 64=((2*j/64:Nat):Int) from rfl]; exact w64_in (by unfold inI; omega)
    have l0:ldI .i64 (σ++τ) b (x*8)=some ((2*j:Nat):Int):=A.ld.l0
    have htk:inB ((allS m).take (x+1)) bk=inB ((allS m).take x) bk++(if ((2*j/64:Nat):Int)=bk then [j] else []):=by
      rw[List.take_add_one,A.all]
      unfold inB
      rw[List.filter_append]
      congr 1
      show List.filter _ [j]=_
      by_cases e:((2*j/64:Nat):Int)=bk
      · rw[if_pos e,List.filter_cons,if_pos (decide_eq_true e),List.filter_nil]
      · rw[if_neg e,List.filter_cons,if_neg (by rw[decide_eq_true_eq]; exact e),List.filter_nil]
    by_cases e:((2*j/64:Nat):Int)=bk
    · obtain ⟨s1,τ1,e1,i1⟩:=int_behind σ τ s _ ((2*j:Nat):Int) (by
        have:=List.length_filter_le (fun j=>decide (((2*j/64:Nat):Int)=bk)) ((allS m).take x)
        simp[addrs,inB] at this ⊢; omega) hs
      have e1':appendD P ty_int (s.1,s.2.1,s.2.2) (some ⟨(σ++τ).length,0,none⟩,1,1) (σ++τ++[.cells [.int .i64 ((2*j:Nat):Int)] ty_int true])=_:=e1
      obtain ⟨τ2,s2,e2,i2⟩:=rObjects_l0_to k h bk n (x+1) f τ1 s1 (by omega) (by
        rw[htk,if_pos e]
        simpa [addrs] using i1) (by omega)
      refine ⟨τ2,s2, ?_,i2⟩
      rw[d_ref02_Heap_Objects_l0_eq,b_ref02_Heap_Objects_l0]
      simp only[rMade_g k hg,Option.bind_some,toB_bool,cond_true,Nat.zero_add,Nat.add_zero,hg.at_.ld1',q,qx,if_true,A.os,Int.toNat_natCast,l0,show ((64:Int)=0)=False from by decide,if_false,w2,beq_iff_eq.2 e,allocK,e1',u_l_eq,w1]
      exact e2
    · obtain ⟨τ2,s2,e2,i2⟩:=rObjects_l0_to k h bk n (x+1) f τ s (by omega) (by
        rw[htk,if_neg e,List.append_nil]
        exact hs) (by omega)
      refine ⟨τ2,s2, ?_,i2⟩
      rw[d_ref02_Heap_Objects_l0_eq,b_ref02_Heap_Objects_l0]
      simp only[rMade_g k hg,Option.bind_some,toB_bool,cond_true,Nat.zero_add,Nat.add_zero,hg.at_.ld1',q,qx,if_true,A.os,Int.toNat_natCast,l0,show ((64:Int)=0)=False from by decide,if_false,w2,beq_eq_false_iff_ne.2 e,cond_false,u_l_eq,w1]
      exact e2
def objsI (m:HM) (b:Int):List Nat:=if 0≤b∧b<(m.bls.length:Int) then starts m (32*b.toNat) 32 else []
theorem inB_eq (m:HM) (b:Int):inB (allS m) b=objsI m b:=by
  unfold objsI
  split
  · rename_i hb
    refine sorted_ext ((allS_sorted m).filter _) ((List.pairwise_lt_range' (step:=1) (by decide)).filter _) fun a=>?_
    unfold inB
    rw[List.mem_filter,mem_allS,decide_eq_true_eq]
    show _↔a ∈ starts m (32*b.toNat) 32
    rw[mem_starts]
    constructor
    · rintro ⟨h1,h2⟩; exact ⟨by omega,by omega,h1.2⟩
    · rintro ⟨h1,h2,h3⟩; exact ⟨⟨by omega,h3⟩,by omega⟩
  · rename_i hb
    unfold inB
    rw[List.filter_eq_nil_iff]
    intro j hj
    have:=(mem_allS.1 hj).1
    rw[decide_eq_true_eq]
    omega
theorem rObjects_to (k:Nat) (hk:5000≤k) (h:RG σ i m t) (b:Int):∃ τ s,d_ref02_Heap_Objects (k+2) (rptr i) b σ=some (.slice s.1 s.2.1 s.2.2,σ++τ)∧IntsAt σ.length (σ++τ) s (addrs (objsI m b)):=by
  have hol:=h.ol
  obtain ⟨τ,s,e,hs⟩:=rObjects_l0_to k h b t.ob.length 0 (k+1) [] (none,0,0) (by omega) (.inl ⟨rfl,rfl⟩) (by omega)
  rw[List.append_nil,show ((0:Nat):Int)=0 from rfl] at e
  rw[inB_eq] at hs
  refine ⟨τ,s, ?_,hs⟩
  rw[d_ref02_Heap_Objects_eq,b_ref02_Heap_Objects]
  simp only[e,Option.bind_some,if_true,u_l_eq]
theorem rUsed_l0_to (k:Nat) (h:RG σ i m t):∀ (n x f acc:Nat) (τ:AMem),x+n=t.ob.length→acc≤218*x→n<f →
    ∃ τ',d_ref02_Heap_Used_l0 (k+2) f (rptr i) (acc:Int) (x:Int) (σ++τ)=some (.exit 0,[.int .i64 ((acc+(((allS m).drop x).map fun j=>sz m j).sum:Nat):Int)],σ++τ')
  | 0,x,0,acc,τ,hx,ha,hf=>by omega
  | 0,x,f+1,acc,τ,hx,ha,hf=>by
    have hal:=h.alen
    have hg:=h.app τ
    rw[d_ref02_Heap_Used_l0_eq,b_ref02_Heap_Used_l0,List.drop_eq_nil_of_le (by omega)]
    have q:decide ((x:Int)<((t.ob.length:Nat):Int))=false:=decide_eq_false (by omega)
    exact ⟨τ,by simp only[rMade_g (k+1) hg,Option.bind_some,toB_bool,cond_true,Nat.zero_add,hg.at_.ld1',q,cond_false,List.map_nil,List.sum_nil,Nat.add_zero]⟩
  | n+1,x,0,acc,τ,hx,ha,hf=>by omega
  | n+1,x,f+1,acc,τ,hx,ha,hf=>by
    have hol:=h.ol
    have hxl:x<t.ob.length:=by omega
    have hg:=h.app τ
    obtain ⟨j,b,p,A⟩:=hg.ath hxl
    have hz:=h.inv.size A.st
    obtain ⟨τ1,e1⟩:=ref_Words_to k (refsAt m j) (dataAt m j) (kindAt m j) (σ++τ)
    rw[(word1 h.inv A.st).2.2.2.2.2.2.2,List.append_assoc] at e1
    obtain ⟨τ2,e2⟩:=rUsed_l0_to k h n (x+1) f (acc+sz m j) (τ++τ1) (by omega) (by omega) (by omega)
    refine ⟨τ2, ?_⟩
    rw[A.dr,List.map_cons,List.sum_cons,← Nat.add_assoc,← e2,d_ref02_Heap_Used_l0_eq,b_ref02_Heap_Used_l0]
    have q:decide ((x:Int)<((t.ob.length:Nat):Int))=true:=decide_eq_true (by omega)
    have qx:(0≤(x:Int)∧(x:Int)<((t.ob.length:Nat):Int))=True:=eq_true (by omega)
    have w1:w64 ((x:Int)+1)=((x+1:Nat):Int):=w64_in (by unfold inI; omega)
    have w2:w64 ((acc:Int)+(sz m j:Int))=((acc+sz m j:Nat):Int):=by rw[w64_in (by unfold inI; omega)]; omega
    have l2:ldI .i64 (σ++τ) b (x*8+2)=some (refsAt m j):=A.ld.l2
    have l3:ldI .i64 (σ++τ) b (x*8+3)=some (dataAt m j):=A.ld.l3
    have l4:ldI .i64 (σ++τ) b (x*8+4)=some (kindAt m j):=A.ld.l4
    simp only[rMade_g (k+1) hg,Option.bind_some,toB_bool,cond_true,Nat.zero_add,Nat.add_assoc,Nat.reduceAdd,hg.at_.ld1',q,qx,if_true,A.os,Int.toNat_natCast,l2,l3,l4,e1,toI_int,w1,w2]
theorem rUsed_to (k:Nat) (hk:5000≤k) (h:RG σ i m t):∃ τ,d_ref02_Heap_Used (k+3) (rptr i) σ=some (.int .i64 (usedN m:Int),σ++τ):=by
  have hol:=h.ol
  obtain ⟨τ,e⟩:=rUsed_l0_to k h t.ob.length 0 (k+2) 0 [] (by omega) (by omega) (by omega)
  rw[List.append_nil,show ((0:Nat):Int)=0 from rfl,List.drop_zero,Nat.zero_add] at e
  refine ⟨τ, ?_⟩
  rw[d_ref02_Heap_Used_eq,b_ref02_Heap_Used]
  simp only[e,Option.bind_some,if_true,u_i_eq]
  rfl
theorem rFind_l0_to (k:Nat) (h:RG σ i m t) (a:Int):∀ (n x f:Nat) (τ:AMem),x+n=t.ob.length→n<f →
    ∃ τ',d_ref02_Heap_Find_l0 (k+2) f (rptr i) a (x:Int) (σ++τ)=some (match rFind (t.ob.drop x) a with | some o=>(.ret,[.int .i64 o.addr,.int .i64 0],σ++τ') | none=>(.exit 0,[],σ++τ'))
  | 0,x,0,τ,hx,hf=>by omega
  | 0,x,f+1,τ,hx,hf=>by
    have hg:=h.app τ
    rw[d_ref02_Heap_Find_l0_eq,b_ref02_Heap_Find_l0,List.drop_eq_nil_of_le (by omega)]
    have q:decide ((x:Int)<((t.ob.length:Nat):Int))=false:=decide_eq_false (by omega)
    exact ⟨τ,by simp only[Option.bind_some,Nat.zero_add,hg.at_.ld1',q,cond_false,rFind]⟩
  | n+1,x,0,τ,hx,hf=>by omega
  | n+1,x,f+1,τ,hx,hf=>by
    have hol:=h.ol
    have hxl:x<t.ob.length:=by omega
    have hg:=h.app τ
    obtain ⟨j,b,p,A⟩:=hg.ath hxl
    have hz:=h.inv.size A.st
    have hjl:=A.lt
    have hw:=roOf_w h.inv A.st
    obtain ⟨j',_,_,_,ho⟩:=h.drop hxl
    have hoj:t.ob[x]=roOf m j:=by
      obtain ⟨j2,g1,_,_,g4⟩:=h.drop hxl
      rw[A.all] at g1; cases g1
      rw[List.getElem?_eq_getElem hxl] at g4; exact Option.some.inj g4
    obtain ⟨τ1,e1⟩:=ref_Words_to k (refsAt m j) (dataAt m j) (kindAt m j) (σ++τ)
    rw[(word1 h.inv A.st).2.2.2.2.2.2.2,List.append_assoc] at e1
    have hg1:=h.app (τ++τ1)
    rw[List.drop_eq_getElem_cons hxl,hoj,rFind,hw,roOf_addr]
    have q:decide ((x:Int)<((t.ob.length:Nat):Int))=true:=decide_eq_true (by omega)
    have qx:(0≤(x:Int)∧(x:Int)<((t.ob.length:Nat):Int))=True:=eq_true (by omega)
    have w1:w64 ((x:Int)+1)=((x+1:Nat):Int):=w64_in (by unfold inI; omega)
    have w2:w64 (((2*j:Nat):Int)+(sz m j:Int))=((2*j:Nat):Int)+(sz m j:Int):=w64_in (by unfold inI; omega)
    have l0:ldI .i64 (σ++τ) b (x*8)=some ((2*j:Nat):Int):=A.ld.l0
    have l2:ldI .i64 (σ++τ) b (x*8+2)=some (refsAt m j):=A.ld.l2
    have l3:ldI .i64 (σ++τ) b (x*8+3)=some (dataAt m j):=A.ld.l3
    have l4:ldI .i64 (σ++τ) b (x*8+4)=some (kindAt m j):=A.ld.l4
    rw[d_ref02_Heap_Find_l0_eq,b_ref02_Heap_Find_l0]
    by_cases c1:((2*j:Nat):Int)≤a
    · by_cases c2:a<((2*j:Nat):Int)+(sz m j:Int)
      · obtain ⟨j3,b3,p3,A3⟩:=hg1.ath hxl
        have:j3=j:=by have:=A3.all; rw[A.all] at this; exact (Option.some.inj this).symm
        subst this
        have l0':ldI .i64 (σ++(τ++τ1)) b3 (x*8)=some ((2*j3:Nat):Int):=A3.ld.l0
        have:b3=b:=by have:=A3.os; rw[A.os] at this; cases this; rfl
        subst this
        refine ⟨τ++τ1, ?_⟩
        rw[if_pos ⟨c1,c2⟩]
        simp only[Option.bind_some,Nat.zero_add,Nat.add_zero,Nat.add_assoc,Nat.reduceAdd,hg.at_.ld1',q,cond_true,qx,if_true,A.os,Int.toNat_natCast,l0,decide_eq_true (show a≥((2*j3:Nat):Int) from c1),l2,l3,l4,e1,toI_int,w2,decide_eq_true c2,hg1.at_.ld1',l0']
        rfl
      · obtain ⟨τ2,e2⟩:=rFind_l0_to k h a n (x+1) f (τ++τ1) (by omega) (by omega)
        refine ⟨τ2, ?_⟩
        rw[if_neg (fun h=>c2 h.2),← e2]
        simp only[Option.bind_some,Nat.zero_add,Nat.add_zero,Nat.add_assoc,Nat.reduceAdd,hg.at_.ld1',q,cond_true,qx,if_true,A.os,Int.toNat_natCast,l0,decide_eq_true (show a≥((2*j:Nat):Int) from c1),l2,l3,l4,e1,toI_int,w2,decide_eq_false c2,cond_false,w1]
    · obtain ⟨τ2,e2⟩:=rFind_l0_to k h a n (x+1) f τ (by omega) (by omega)
      refine ⟨τ2, ?_⟩
      rw[if_neg (fun h=>c1 h.1),← e2]
      simp only[Option.bind_some,Nat.zero_add,Nat.add_zero,hg.at_.ld1',q,cond_true,qx,if_true,A.os,Int.toNat_natCast,l0,decide_eq_false (show ¬ a≥((2*j:Nat):Int) from c1),cond_false,w1]
theorem rFind_to (k:Nat) (hk:5000≤k) (h:RG σ i m t) (a:Int):∃ τ,d_ref02_Heap_Find (k+3) (rptr i) a σ =
    some (match findI m a with | some j=>.tuple #[.int .i64 ((2*j:Nat):Int),.int .i64 0] | none=>.tuple #[.int .i64 0,.int .i64 4],σ++τ):=by
  have hol:=h.ol
  obtain ⟨τ,e⟩:=rFind_l0_to k h a t.ob.length 0 (k+2) [] (by omega) (by omega)
  rw[List.append_nil,show ((0:Nat):Int)=0 from rfl,List.drop_zero,h.sim.find h.inv] at e
  refine ⟨τ, ?_⟩
  rw[d_ref02_Heap_Find_eq,b_ref02_Heap_Find]
  simp only[rMade_g (k+1) h,Option.bind_some,toB_bool,Bool.not_true,cond_false,e]
  cases findI m a with
  | none=>simp only[Option.map_none,if_true]
  | some j=>simp only[Option.map_some,reduceCtorEq,if_false,if_true,u_ii_eq,roOf_addr]
theorem rAt_l0_to (k:Nat) (h:RG σ i m t) (id:Int):∀ (n x f:Nat),x+n=t.ob.length→n<f→d_ref02_Heap_At_l0 k f (rptr i) id (x:Int) σ=some (match rAt (t.ob.drop x) id with | some a=>(.ret,[.int .i64 a,.int .i64 0],σ) | none=>(.exit 0,[],σ))
  | 0,x,0,hx,hf=>by omega
  | 0,x,f+1,hx,hf=>by
    rw[d_ref02_Heap_At_l0_eq,b_ref02_Heap_At_l0,List.drop_eq_nil_of_le (by omega)]
    have q:decide ((x:Int)<((t.ob.length:Nat):Int))=false:=decide_eq_false (by omega)
    simp only[Option.bind_some,Nat.zero_add,h.at_.ld1',q,cond_false,rAt]
  | n+1,x,0,hx,hf=>by omega
  | n+1,x,f+1,hx,hf=>by
    have hol:=h.ol
    have hxl:x<t.ob.length:=by omega
    have ih:=rAt_l0_to k h id n (x+1) f (by omega) (by omega)
    obtain ⟨b,eb,_,L⟩:=h.at_.obj hxl
    have L:=L (by rw[h.at_.ol]; exact hxl)
    rw[List.drop_eq_getElem_cons hxl,d_ref02_Heap_At_l0_eq,b_ref02_Heap_At_l0,rAt]
    have q:decide ((x:Int)<((t.ob.length:Nat):Int))=true:=decide_eq_true (by omega)
    have qx:(0≤(x:Int)∧(x:Int)<((t.ob.length:Nat):Int))=True:=eq_true (by omega)
    have w1:w64 ((x:Int)+1)=((x+1:Nat):Int):=w64_in (by unfold inI; omega)
    simp only[Option.bind_some,Nat.zero_add,Nat.add_zero,h.at_.ld1',q,cond_true,qx,if_true,eb,Int.toNat_natCast,L.l0,L.l1,w1]
    by_cases e:t.ob[x].id=id
    · rw[if_pos e,beq_iff_eq.2 e]; simp only[cond_true]
    · rw[if_neg e,beq_eq_false_iff_ne.2 e]
      simp only[cond_false,ih]
theorem rAt_to (k:Nat) (hk:5000≤k) (h:RG σ i m t) (id:Int):d_ref02_Heap_At (k+2) (rptr i) id σ=some (match getM m.pl id with | some a=>.tuple #[.int .i64 a,.int .i64 0] | none=>.tuple #[.int .i64 0,.int .i64 4],σ):=by
  have hol:=h.ol
  have e:=rAt_l0_to (k+1) h id t.ob.length 0 (k+1) (by omega) (by omega)
  rw[List.drop_zero,h.sim.at h.inv,show ((0:Nat):Int)=0 from rfl] at e
  rw[d_ref02_Heap_At_eq,b_ref02_Heap_At]
  simp only[rMade_g k h,Option.bind_some,toB_bool,Bool.not_true,cond_false,e]
  cases getM m.pl id with
  | none=>simp only[if_true]
  | some a=>simp only[reduceCtorEq,if_false,if_true,u_ii_eq]
end
end Go.Proofs.YtlaplcglpnlieaaGreat
