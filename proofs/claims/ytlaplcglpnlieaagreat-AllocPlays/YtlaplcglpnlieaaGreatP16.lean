/- The document's heap: a list of objects; how it answers to a heap.; The document's heap: how calls turn both sides alike.; The document's heap in memor -/
import Derived.Test.YtlaplcglpnlieaaGreatP15
set_option linter.unusedVariables false
set_option linter.unusedSimpArgs false
set_option linter.unusedSectionVars false
section
namespace Go.Proofs.YtlaplcglpnlieaaGreat
open Go Go.AX
variable {m:HM}
structure RO where
 addr:Int
 id:Int
 r:Int
 d:Int
 k:Int
 refs:List Int
 data:List Int
 pin:Bool
structure RM where
 bl:List (Int × Int)
 ob:List RO
 fw:List (Int × Int)
 born:Int
def RO.w (o:RO):Int:=words o.r o.d o.k
def BE (m:HM) (j:Nat):RO:=⟨((2*j:Nat):Int),m.wds.getD (2*j) 0,AQ m j,BB m j,EG m j,Om m (2*j+2) (AQ m j).toNat,Om m (2*j+2+(AQ m j).toNat) (BB m j).toNat,decide (FI 1 m.pnw j=1)⟩
def D1 (m:HM):List Nat:=Cb m 0 (32*m.bls.length)
def LW (m:HM):List RO:=(D1 m).map (BE m)
structure UN (m:HM) (t:RM):Prop where
 bl:t.bl=m.bls
 ob:t.ob=LW m
 born:t.born=m.births
 fw:∀ a,getM t.fw a=getM m.fw a
 fl:t.fw.length=m.fw.length
 o1:VZ t.fw
 o2:VZ m.fw
theorem Zz:∀ {l l':List Nat},l.Pairwise (·<·)→l'.Pairwise (·<·)→(∀ a,a ∈ l↔a ∈ l')→l=l'
 | [],[],_,_,_=>rfl
 | [],b::l',_,_,h=>by have:=(h b).2 List.mem_cons_self; cases this
 | a::l,[],_,_,h=>by have:=(h a).1 List.mem_cons_self; cases this
 | a::l,b::l',h1,h2,h=>by
   have p1:=List.pairwise_cons.1 h1
   have p2:=List.pairwise_cons.1 h2
   have hab:a=b:=by
    rcases List.mem_cons.1 ((h a).1 List.mem_cons_self) with e | e
    ·exact e
    ·rcases List.mem_cons.1 ((h b).2 List.mem_cons_self) with e' | e'
     ·exact e'.symm
     ·have:=p1.1 b e'; have:=p2.1 a e; omega
   subst hab
   congr 1
   refine Zz p1.2 p2.2 fun x=>⟨fun hx=>?_,fun hx=>?_⟩
   ·rcases List.mem_cons.1 ((h x).1 (List.mem_cons_of_mem _ hx)) with e | e
    ·subst e; have:=p1.1 x hx; omega
    ·exact e
   ·rcases List.mem_cons.1 ((h x).2 (List.mem_cons_of_mem _ hx)) with e | e
    ·subst e; have:=p2.1 x hx; omega
    ·exact e
theorem Qd (m:HM):(D1 m).Pairwise (·<·):=(List.pairwise_lt_range' (step:=1) (by decide)).filter _
theorem E9 {j:Nat}:j ∈ D1 m↔Start m j:=pH
theorem ko {m':HM} {l:List Nat} (hs:l.Pairwise (·<·)) (hm:∀ j,j ∈ l↔Start m' j):LW m'=l.map (BE m'):=by
 unfold LW
 rw[Zz (Qd m') hs (fun a=>by rw[E9,hm])]
def Rw:List RO→Int→Option Nat
 | [],_=>none
 | o::l,a=>if o.addr=a then some 0 else (Rw l a).map (·+1)
theorem mr (f:Nat→RO) (hf:∀ j,(f j).addr=((2*j:Nat):Int)):∀ (L:List Nat) (a:Int),(∀ x,Rw (L.map f) a=some x→x<L.length ∧ ∀ h:x<L.length,a=((2*L[x]:Nat):Int))∧(Rw (L.map f) a=none → ∀ j ∈ L,a≠((2*j:Nat):Int))
 | [],a=>⟨fun x h=>(by cases h),fun _ j hj=>(by cases hj)⟩
 | j::L,a=>by
   obtain ⟨h1,h2⟩:=mr f hf L a
   simp only[List.map_cons,Rw,hf]
   constructor
   ·intro x hx
    split at hx
    ·rename_i e
     cases hx
     exact ⟨by simp,fun _=>e.symm⟩
    ·cases hq:Rw (L.map f) a with
     | none=>rw[hq] at hx; cases hx
     | some y=>
       rw[hq] at hx; cases hx
       obtain ⟨q1,q2⟩:=h1 y hq
       exact ⟨by simpa using q1,fun h=>by simpa using q2 q1⟩
   ·intro hx
    split at hx
    ·cases hx
    ·rename_i e
     cases hq:Rw (L.map f) a with
     | none=>
       intro j' hj' e'
       rcases List.mem_cons.1 hj' with rfl | hj'
       ·exact e e'.symm
       ·exact h2 hq j' hj' e'
     | some y=>rw[hq] at hx; cases hx
theorem JY (m:HM) (j:Nat):(BE m j).addr=((2*j:Nat):Int):=rfl
theorem UN.idx {t:RM} (h:UN m t) (a:Int):(∀ x,Rw t.ob a=some x→x<t.ob.length ∧ ∃ j,Start m j∧a=((2*j:Nat):Int)∧I0 m a=true∧(D1 m)[x]?=some j∧t.ob[x]?=some (BE m j))∧(Rw t.ob a=none→I0 m a=false):=by
 obtain ⟨h1,h2⟩:=mr (BE m) (JY m) (D1 m) a
 rw[h.ob]
 constructor
 ·intro x hx
  obtain ⟨q1,q2⟩:=h1 x hx
  have hs:Start m (D1 m)[x]:=E9.1 (List.getElem_mem q1)
  refine ⟨by simpa [LW] using q1,(D1 m)[x],hs,q2 q1,by rw[q2 q1]; exact dI hs,List.getElem?_eq_getElem q1, ?_⟩
  unfold LW
  rw[List.getElem?_map,List.getElem?_eq_getElem q1]; rfl
 ·intro hx
  cases hq:I0 m a with
  | false=>rfl
  | true=>
    obtain ⟨j,e,hs⟩:=IA hq
    exact absurd e (h2 hx j (E9.2 hs))
theorem UN.has {t:RM} (h:UN m t) (a:Int):(Rw t.ob a).isSome=I0 m a:=by
 obtain ⟨h1,h2⟩:=h.idx a
 cases hq:Rw t.ob a with
 | none=>rw[h2 hq]; rfl
 | some x=>obtain ⟨_,j,_,_,e,_⟩:=h1 x hq; rw[e]; rfl
def VW:List RO→Int→Option RO
 | [],_=>none
 | o::l,a=>if o.addr≤a∧a<o.addr+o.w then some o else VW l a
theorem gw (hI:Inv m) {j:Nat} (hs:Start m j):(BE m j).w=(sz m j:Int):=(XL hI hs).2.2.2.2.2.2.2
theorem ju (hI:Inv m) (a:Nat):∀ (L:List Nat),(∀ j ∈ L,Start m j)→(VW (L.map (BE m)) (a:Int)=none → ∀ j ∈ L,¬ (2*j≤a∧a<2*j+sz m j))∧(∀ o,VW (L.map (BE m)) (a:Int)=some o → ∃ j ∈ L,o=BE m j∧2*j≤a∧a<2*j+sz m j)
 | [],_=>⟨fun _ j hj=>(by cases hj),fun o h=>(by cases h)⟩
 | j::L,hL=>by
   obtain ⟨h1,h2⟩:=ju hI a L fun j hj=>hL j (List.mem_cons_of_mem _ hj)
   simp only[List.map_cons,VW,JY,gw hI (hL j List.mem_cons_self)]
   constructor
   ·intro hx
    split at hx
    ·cases hx
    ·rename_i e
     intro j' hj'
     rcases List.mem_cons.1 hj' with rfl | hj'
     ·rintro ⟨q1,q2⟩; exact e ⟨by omega,by omega⟩
     ·exact h1 hx j' hj'
   ·intro o hx
    split at hx
    ·rename_i e
     cases hx
     exact ⟨j,List.mem_cons_self,rfl,by omega,by omega⟩
    ·obtain ⟨j',q1,q2⟩:=h2 o hx
     exact ⟨j',List.mem_cons_of_mem _ q1,q2⟩
theorem jv:∀ (l:List RO) (a:Int),(∀ o ∈ l,0≤o.addr)→a<0→VW l a=none
 | [],_,_,_=>rfl
 | o::l,a,h,ha=>by
   have:=h o List.mem_cons_self
   rw[VW,if_neg (by omega),jv l a (fun o ho=>h o (List.mem_cons_of_mem _ ho)) ha]
theorem UN.find {t:RM} (h:UN m t) (hI:Inv m) (a:Int):VW t.ob a=(Lq m a).map (BE m):=by
 rw[h.ob]
 unfold Lq
 by_cases h0:a<0
 ·rw[if_neg (by omega),jv _ _ (fun o ho=>by
   obtain ⟨j,_,rfl⟩:=List.mem_map.1 ho
   rw[JY]; omega) h0]; rfl
 obtain ⟨n,rfl⟩:∃ n:Nat,a=(n:Int):=⟨a.toNat,by omega⟩
 obtain ⟨h1,h2⟩:=ju hI n (D1 m) (fun j hj=>E9.1 hj)
 have hr:LW m=(D1 m).map (BE m):=rfl
 rw[hr]
 by_cases hn:(n:Int)<(m.wds.length:Int)
 ·rw[if_pos ⟨by omega,hn⟩,Int.toNat_natCast]
  cases hq:VW ((D1 m).map (BE m)) (n:Int) with
  | none=>
    cases hf:Rg m n with
    | none=>rfl
    | some j=>
      obtain ⟨s1,_,s3,s4⟩:=Sx hf
      exact absurd ⟨s4,s3⟩ (h1 hq j (E9.2 s1))
  | some o=>
    obtain ⟨j,hj,rfl,q1,q2⟩:=h2 o hq
    rw[hI.Ob (E9.1 hj) q1 q2]; rfl
 ·rw[if_neg (by omega)]
  cases hq:VW ((D1 m).map (BE m)) (n:Int) with
  | none=>rfl
  | some o=>
    obtain ⟨j,hj,rfl,q1,q2⟩:=h2 o hq
    have:=hI.fit j (E9.1 hj)
    omega
def uK:List RO→Int→Option Int
 | [],_=>none
 | o::l,n=>if o.id=n then some o.addr else uK l n
theorem pL (n:Int):∀ (L:List Nat),(uK (L.map (BE m)) n=none → ∀ j ∈ L,m.wds.getD (2*j) 0≠n)∧(∀ a,uK (L.map (BE m)) n=some a → ∃ j ∈ L,a=((2*j:Nat):Int)∧m.wds.getD (2*j) 0=n)
 | []=>⟨fun _ j hj=>(by cases hj),fun a h=>(by cases h)⟩
 | j::L=>by
   obtain ⟨h1,h2⟩:=pL n L
   simp only[List.map_cons,uK,JY]
   have e0:(BE m j).id=m.wds.getD (2*j) 0:=rfl
   rw[e0]
   constructor
   ·intro hx
    split at hx
    ·cases hx
    ·rename_i e
     intro j' hj'
     rcases List.mem_cons.1 hj' with rfl | hj'
     ·exact e
     ·exact h1 hx j' hj'
   ·intro a hx
    split at hx
    ·rename_i e
     cases hx
     exact ⟨j,List.mem_cons_self,rfl,e⟩
    ·obtain ⟨j',q1,q2⟩:=h2 a hx
     exact ⟨j',List.mem_cons_of_mem _ q1,q2⟩
theorem UN.at {t:RM} (h:UN m t) (hI:Inv m) (n:Int):uK t.ob n=getM m.pl n:=by
 rw[h.ob]
 obtain ⟨h1,h2⟩:=pL (m:=m) n (D1 m)
 have hr:LW m=(D1 m).map (BE m):=rfl
 rw[hr]
 cases hq:uK ((D1 m).map (BE m)) n with
 | none=>
   cases hg:getM m.pl n with
   | none=>rfl
   | some a=>
     obtain ⟨j,rfl,s1,s2⟩:=hI.plc _ _ hg
     exact absurd s2 (h1 hq j (E9.2 s1))
 | some a=>
   obtain ⟨j,hj,rfl,e⟩:=h2 a hq
   have:=(hI.idn j (E9.1 hj)).2.2
   rw[e] at this
   exact this.symm
def gn (l:List RO) (a w but:Int):Bool:=l.any fun o=>decide (o.id≠but∧o.addr<a+w∧a<o.addr+o.w)
end Go.Proofs.YtlaplcglpnlieaaGreat
end
section
namespace Go.Proofs.YtlaplcglpnlieaaGreat
open Go Go.AX
variable {m:HM} {t:RM}
def Pt (m:HM):Prop:=∀ j,j<32*m.bls.length→¬ Start m j→FI 1 m.pnw j=0
theorem gv (hI:Inv m) {m':HM} {j j':Nat} (hs:Start m j) (hw:∀ c,c<sz m j→m'.wds.getD (2*j'+c) 0=m.wds.getD (2*j+c) 0) (hp:FI 1 m'.pnw j'=FI 1 m.pnw j):BE m' j'={ BE m j with addr:=((2*j':Nat):Int) }:=by
 have hz:=hI.size hs
 have w1:=hw 1 (by omega)
 obtain ⟨_,_,er,ed⟩:=YR (m:=m) (m':=m') (j:=j) (j':=j') w1
 have ek:EG m' j'=EG m j:=by unfold EG; rw[w1]
 have w0:=hw 0 (by omega)
 rw[Nat.add_zero,Nat.add_zero] at w0
 unfold BE
 rw[w0,er,ed,ek,hp,Ya (m:=m) (m':=m') (AQ m j).toNat (2*j+2) (2*j'+2) (fun q hq=>by
  have:=hw (2+q) (by omega)
  rw[Nat.add_assoc,Nat.add_assoc]; exact this),Ya (m:=m) (m':=m') (BB m j).toNat (2*j+2+(AQ m j).toNat) (2*j'+2+(AQ m j).toNat) (fun q hq=>by
  have:=hw (2+(AQ m j).toNat+q) (by omega)
  rw[Nat.add_assoc (2*j'),Nat.add_assoc (2*j'),Nat.add_assoc (2*j),Nat.add_assoc (2*j)]; exact this)]
theorem R7 (hI:Inv m) {m':HM} {j:Nat} (hs:Start m j) (hw:∀ c,c<sz m j→m'.wds.getD (2*j+c) 0=m.wds.getD (2*j+c) 0) (hp:FI 1 m'.pnw j=FI 1 m.pnw j):BE m' j=BE m j:=gv hI hs hw hp
def Vz:List RO→Int→Nat
 | [],_=>0
 | o::l,a=>if o.addr<a then Vz l a+1 else 0
def X9 (l:List RO) (o:RO):List RO:=l.take (Vz l o.addr)++o::l.drop (Vz l o.addr)
theorem pM:∀ (l:List RO) (a:Int),Vz l a≤l.length
 | [],_=>Nat.le_refl _
 | o::l,a=>by
   rw[Vz]
   split
   ·have:=pM l a; simp; omega
   ·simp
theorem mz (f:Nat→RO) (hf:∀ j,(f j).addr=((2*j:Nat):Int)) (j:Nat):∀ (L:List Nat),L.Pairwise (·<·)→(∀ y ∈ L.take (Vz (L.map f) ((2*j:Nat):Int)),y<j)∧(∀ y ∈ L.drop (Vz (L.map f) ((2*j:Nat):Int)),j≤y)
 | [],_=>⟨fun y h=>(by simp at h),fun y h=>(by simp at h)⟩
 | b::L,h=>by
   have p:=List.pairwise_cons.1 h
   obtain ⟨h1,h2⟩:=mz f hf j L p.2
   simp only[List.map_cons,Vz,hf]
   split
   ·rw[List.take_succ_cons,List.drop_succ_cons]
    refine ⟨fun y hy=>?_,h2⟩
    rcases List.mem_cons.1 hy with rfl | hy
    ·omega
    ·exact h1 y hy
   ·rw[List.take_zero,List.drop_zero]
    refine ⟨fun y hy=>(by cases hy),fun y hy=>?_⟩
    rcases List.mem_cons.1 hy with rfl | hy
    ·omega
    ·have:=p.1 y hy; omega
theorem mw {m':HM} {L:List Nat} {j:Nat} {o:RO} (hs:L.Pairwise (·<·)) (hj:j ∉ L) (hst:∀ y,Start m' y↔y=j∨y ∈ L) (f:Nat→RO) (hf:∀ j,(f j).addr=((2*j:Nat):Int)) (hfL:∀ y ∈ L,BE m' y=f y) (ho:BE m' j=o):LW m'=X9 (L.map f) o:=by
 have ha:o.addr=((2*j:Nat):Int):=by rw[← ho]; rfl
 obtain ⟨h1,h2⟩:=mz f hf j L hs
 unfold X9
 rw[ha]
 obtain ⟨p,hp⟩:∃ p,Vz (L.map f) ((2*j:Nat):Int)=p:=⟨_,rfl⟩
 rw[hp] at h1 h2 ⊢
 have hsplit:=List.take_append_drop p L
 have hs':(L.take p++L.drop p).Pairwise (·<·):=by rw[hsplit]; exact hs
 rw[List.pairwise_append] at hs'
 rw[ko (l:=L.take p++j::L.drop p) ?_ ?_,List.map_append,List.map_cons,← List.map_take,← List.map_drop,ho]
 ·congr 1
  ·exact List.map_congr_left fun y hy=>hfL y (List.mem_of_mem_take hy)
  ·congr 1
   exact List.map_congr_left fun y hy=>hfL y (List.mem_of_mem_drop hy)
 ·rw[List.pairwise_append,List.pairwise_cons]
  refine ⟨hs'.1,⟨fun y hy=>?_,hs'.2.1⟩,fun x hx y hy=>?_⟩
  ·have:=h2 y hy
   have:y≠j:=fun e=>hj (e ▸ List.mem_of_mem_drop hy)
   omega
  ·rcases List.mem_cons.1 hy with rfl | hy
   ·exact h1 x hx
   ·exact hs'.2.2 x hx y hy
 ·intro y
  rw[hst y,List.mem_append,List.mem_cons]
  constructor
  ·rintro (h | h | h)
   ·exact .inr (List.mem_of_mem_take h)
   ·exact .inl h
   ·exact .inr (List.mem_of_mem_drop h)
  ·rintro (h | h)
   ·exact .inr (.inl h)
   ·rw[← hsplit,List.mem_append] at h
    rcases h with h | h
    ·exact .inl h
    ·exact .inr (.inr h)
theorem ca {m':HM}:∀ (n a:Nat),(∀ q,q<n→m'.wds.getD (a+q) 0=0)→Om m' a n=List.replicate n 0
 | 0,a,h=>rfl
 | n+1,a,h=>by
   rw[UG,List.replicate_succ,ca n (a+1) (fun q hq=>by have:=h (q+1) (by omega); rw[show a+1+q=a+(q+1) from by omega]; exact this)]
   have:=h 0 (by omega)
   rw[Nat.add_zero] at this
   rw[this]
theorem UN.Cx {m':HM} {t':RM} (h:UN m t) (hb:t'.bl=m'.bls) (ho:t'.ob=LW m') (hn:t'.born=m'.births) (hf:t'.fw=t.fw) (hm:m'.fw=m.fw):UN m' t':=
 ⟨hb,ho,hn,by rw[hf,hm]; exact h.fw,by rw[hf,hm]; exact h.fl,by rw[hf]; exact h.o1,by rw[hm]; exact h.o2⟩
theorem T6 (hS:Sh m) {j:Nat} (hj:j<32*m.bls.length) (n:Int) (a:Nat):(DP m j n).wds.getD a 0=if a=2*j+1 then n else if a=2*j then m.births+1 else m.wds.getD a 0:=by
 have:=hS.wl
 show ((m.wds.set (2*j) (m.births+1)).set (2*j+1) n).getD a 0=_
 rw[Dd,Dd,List.length_set]
 by_cases h1:a=2*j+1
 ·subst h1; rw[if_pos ⟨rfl,by omega⟩,if_pos rfl]
 ·rw[if_neg (fun h=>h1 h.1.symm),if_neg h1]
  by_cases h2:a=2*j
  ·subst h2; rw[if_pos ⟨rfl,by omega⟩,if_pos rfl]
  ·rw[if_neg (fun h=>h2 h.1.symm),if_neg h2]
theorem UN.place (h:UN m t) (hI:Inv m) (hI2:Inv2 m) (hS:Sh m) (hP:Pt m) {j:Nat} {r d k:Int} (hv:valid r d k=true) (hj:j<32*m.bls.length)
  (hap:∀ o,Start m o→2*o+sz m o≤2*j∨2*j+UQ (num r d k)≤2*o):UN (DP m j (num r d k)) { t with born:=t.born+1,ob:=X9 t.ob ⟨((2*j:Nat):Int),t.born+1,r,d,k,List.replicate r.toNat 0,List.replicate d.toNat 0,false⟩ }∧Pt (DP m j (num r d k)):=by
 have hsl:=hS.sl
 obtain ⟨p1,p2,p3,_⟩:=PG hv
 have hsz:=Qb hv
 have hv':=hv
 simp[valid] at hv'
 have hnot:¬ Start m j:=by
  intro hs
  have:=hap j hs
  have:=hI.size hs
  rcases this with ⟨_,_⟩
  rw[hsz] at *
  omega
 have hst:∀ y,Start (DP m j (num r d k)) y↔y=j∨y ∈ D1 m:=fun y=>by rw[TC hsl hj,E9]
 have key:LW (DP m j (num r d k))=X9 (LW m) ⟨((2*j:Nat):Int),m.births+1,r,d,k,List.replicate r.toNat 0,List.replicate d.toNat 0,false⟩:=by
  refine mw (Qd m) (fun hm=>hnot (E9.1 hm)) hst (BE m) (JY m) (fun y hy=>?_) ?_
  ·have hy:=E9.1 hy
   have hne:y≠j:=fun e=>hnot (e ▸ hy)
   have hz:=hI.size hy
   have:=hap y hy
   refine R7 hI hy (fun c hc=>?_) rfl
   rw[T6 hS hj,if_neg (by rw[hsz] at this; omega),if_neg (by rw[hsz] at this; omega)]
  ·have w0:(DP m j (num r d k)).wds.getD (2*j) 0=m.births+1:=by rw[T6 hS hj,if_neg (by omega),if_pos rfl]
   have w1:(DP m j (num r d k)).wds.getD (2*j+1) 0=num r d k:=by rw[T6 hS hj,if_pos rfl]
   have e1:AQ (DP m j (num r d k)) j=r:=by unfold AQ; rw[w1,p1]
   have e2:BB (DP m j (num r d k)) j=d:=by unfold BB; rw[w1,p2]
   have e3:EG (DP m j (num r d k)) j=k:=by unfold EG; rw[w1,p3]
   have hzero:∀ a,2*j+2≤a→a<2*j+UQ (num r d k)→(DP m j (num r d k)).wds.getD a 0=0:=by
    intro a h1 h2
    rw[T6 hS hj,if_neg (by omega),if_neg (by omega)]
    refine hI2.zero a fun o ho q1 q2=>?_
    have:=hap o ho
    have:=hI.use ho
    omega
   unfold BE
   rw[w0,e1,e2,e3,ca,ca]
   ·have:FI 1 (DP m j (num r d k)).pnw j=0:=hP j hj hnot
    rw[this]; rfl
   ·intro q hq; exact hzero _ (by omega) (by rw[hsz]; omega)
   ·intro q hq; exact hzero _ (by omega) (by rw[hsz]; omega)
 refine ⟨h.Cx h.bl ?_ ?_ rfl rfl,fun y hy hn=>?_⟩
 ·show X9 t.ob _=_
  rw[key,h.ob,h.born]
 ·show t.born+1=m.births+1
  rw[h.born]
 ·exact hP y hy fun hs=>hn ((TC hsl hj).2 (.inr hs))
theorem jg {α β:Type} (f:α→β):∀ (l:List α) (x:Nat),(l.map f).eraseIdx x=(l.eraseIdx x).map f
 | [],_=>rfl
 | _::_,0=>rfl
 | a::l,x+1=>by simp[List.eraseIdx_cons_succ,jg f l x]
theorem iL {m':HM} {x j:Nat} (hx:(D1 m)[x]?=some j) (hst:∀ y,Start m' y↔y≠j∧Start m y) (hr:∀ y,Start m y→y≠j→BE m' y=BE m y):LW m'=(LW m).eraseIdx x∧((D1 m).eraseIdx x).Pairwise (·<·)∧(∀ y,y ∈ (D1 m).eraseIdx x↔y≠j∧Start m y)∧(LW m).eraseIdx x=((D1 m).eraseIdx x).map (BE m):=by
 obtain ⟨hxl,hxe⟩:=List.getElem?_eq_some_iff.1 hx
 have hs:=(Qd m).sublist (List.eraseIdx_sublist (D1 m) x)
 have hnd:(D1 m).Nodup:=aH _ _
 have hm:∀ y,y ∈ (D1 m).eraseIdx x↔y≠j∧Start m y:=by
  intro y
  rw[List.mem_eraseIdx_iff_getElem]
  constructor
  ·rintro ⟨i,hi,hne,rfl⟩
   refine ⟨fun e=>hne ?_,E9.1 (List.getElem_mem _)⟩
   exact (List.getElem_inj hnd).1 (e.trans hxe.symm)
  ·rintro ⟨hne,hy⟩
   obtain ⟨i,hi,rfl⟩:=List.mem_iff_getElem.1 (E9.2 hy)
   exact ⟨i,hi,fun e=>hne (by subst e; exact hxe),rfl⟩
 have he:(LW m).eraseIdx x=((D1 m).eraseIdx x).map (BE m):=by
  unfold LW; rw[jg]
 refine ⟨?_,hs,hm,he⟩
 rw[ko hs (fun y=>by rw[hm,hst]),he]
 exact List.map_congr_left fun y hy=>hr y ((hm y).1 hy).2 ((hm y).1 hy).1
theorem UN.kill (h:UN m t) (hI:Inv m) (hS:Sh m) (hP:Pt m) {x j:Nat} (hs:Start m j) (hx:(D1 m)[x]?=some j):UN (Ni m j) { t with ob:=t.ob.eraseIdx x }∧Pt (Ni m j):=by
 have hsl:=hS.sl
 have hpl:=hS.pl
 have hj:=hs.1
 have hst:∀ y,Start (Ni m j) y↔y≠j∧Start m y:=fun y=>SO hsl hj
 obtain ⟨e1,_⟩:=iL hx hst (fun y hy hne=>R7 hI hy (fun c hc=>Zo hI hs hy hne (by omega) (by omega)) (by
  show FI 1 (Il 1 m.pnw j 0) y=_
  rw[C6 (.inl rfl) (by decide) (Ne.symm hne)]))
 refine ⟨h.Cx h.bl ?_ h.born rfl rfl,fun y hy hn=>?_⟩
 ·show t.ob.eraseIdx x=_
  rw[e1,h.ob]
 ·show FI 1 (Il 1 m.pnw j 0) y=0
  by_cases e:y=j
  ·subst e; rw[Gg (.inl rfl) (by decide) (by omega)]
  ·rw[C6 (.inl rfl) (by decide) (Ne.symm e)]
   exact hP y hy fun hq=>hn ((hst y).2 ⟨e,hq⟩)
theorem VZ.getM_none {k:Int}:∀ {l:List (Int × Int)},getM l k=none → ∀ e ∈ l,e.1≠k
 | [],_,e,he=>by cases he
 | a::l,h,e,he=>by
   unfold getM at h
   rw[List.find?_cons] at h
   cases hq:(k == a.1) with
   | true=>rw[hq] at h; cases h
   | false=>
     rw[hq] at h
     rcases List.mem_cons.1 he with rfl | he
     ·exact fun e'=>by rw[e'] at hq; simp at hq
     ·exact VZ.getM_none (l:=l) h e he
theorem JW (a k:Int) (b:Int) (l:List (Int × Int)):getM ((a,b)::l) k=if k=a then some b else getM l k:=by
 unfold getM
 rw[List.find?_cons]
 by_cases h:k=a
 ·rw[if_pos h]; simp[h]
 ·rw[if_neg h]
  have:(k == a)=false:=by simpa using h
  simp only[this]
def uL (l:List (Int × Int)) (a b:Int):List (Int × Int):=(l.filter fun e=>e.1 != a)++[(a,b)]
theorem lS (l l':List (Int × Int)) (k:Int):getM (l++l') k=(getM l k).or (getM l' k):=by
 induction l with
 | nil=>simp[getM]
 | cons e l ih=>
   obtain ⟨x,y⟩:=e
   rw[List.cons_append,JW,JW,ih]
   split <;> simp
theorem Xp (a k:Int):∀ l:List (Int × Int),getM (l.filter fun e=>e.1 != a) k=if k=a then none else getM l k
 | []=>by simp[getM]
 | (x,y)::l=>by
   rw[List.filter_cons]
   have ih:=Xp a k l
   by_cases h:x=a
   ·subst h
    simp only[bne_self_eq_false,Bool.false_eq_true,if_false]
    rw[ih,JW]
    by_cases hk:k=x
    ·rw[if_pos hk,if_pos hk]
    ·rw[if_neg hk,if_neg hk,if_neg hk]
   ·have:(x != a)=true:=bne_iff_ne.2 h
    simp only[this,if_true]
    rw[JW,ih,JW]
    by_cases hk:k=x
    ·rw[if_pos hk,if_pos hk,if_neg (by omega)]
    ·rw[if_neg hk,if_neg hk]
theorem X4 (p:Int × Int→Bool):∀ l,VZ l→VZ (l.filter p)
 | [],_=>trivial
 | e::l,h=>by
   rw[List.filter_cons]
   split
   ·refine ⟨?_,X4 p l h.2⟩
    have h1:=h.1
    cases hq:getM (l.filter p) e.1 with
    | none=>rfl
    | some v=>
      unfold getM at hq
      cases hf:(l.filter p).find? (fun e'=>e.1 == e'.1) with
      | none=>rw[hf] at hq; cases hq
      | some e'=>
        have hm:=List.mem_of_find?_eq_some hf
        have he:=List.find?_some hf
        have:=VZ.getM_none h1 e' (List.mem_filter.1 hm).1
        simp at he
        exact absurd he.symm this
   ·exact X4 p l h.2
theorem fk (a:Int):∀ l:List (Int × Int),VZ l→(l.filter fun e=>e.1 != a).length+(if (getM l a).isSome then 1 else 0)=l.length
 | [],_=>by simp[getM]
 | (x,y)::l,h=>by
   have ih:=fk a l h.2
   rw[List.filter_cons,JW]
   by_cases he:x=a
   ·subst he
    have h1:getM l x=none:=h.1
    rw[h1] at ih
    simp at ih ⊢
    exact ih
   ·have:(x != a)=true:=bne_iff_ne.2 he
    simp only[this,if_true]
    rw[if_neg (Ne.symm he)]
    simp only[List.length_cons]
    omega
theorem g9 (a b:Int):∀ l:List (Int × Int),(SI a b l).length=if (getM l a).isSome then l.length else l.length+1
 | []=>by simp[SI,getM]
 | (x,y)::l=>by
   have ih:=g9 a b l
   rw[SI,JW]
   by_cases he:a=x
   ·subst he; simp
   ·have:(a == (x,y).1)=false:=by simpa using he
    simp only[this,Bool.false_eq_true,if_false,if_neg he,List.length_cons,ih]
    split <;> rfl
theorem jl (a b:Int):∀ l:List (Int × Int),VZ l→getM l a=none→VZ (l++[(a,b)])
 | [],_,_=>⟨rfl,trivial⟩
 | (x,y)::l,h,hn=>by
   rw[JW] at hn
   have hne:a≠x:=fun e=>by rw[if_pos e] at hn; cases hn
   rw[if_neg hne] at hn
   refine ⟨?_,jl a b l h.2 hn⟩
   show getM (l++[(a,b)]) x=none
   rw[lS,show getM l x=none from h.1,JW,if_neg (Ne.symm hne)]; rfl
theorem UN.fwd {m':HM} {t':RM} (h:UN m t) (a b:Int) (hb:t'.bl=m'.bls) (ho:t'.ob=LW m') (hn:t'.born=m'.births) (hf:t'.fw=uL t.fw a b) (hm:m'.fw=SI a b m.fw):UN m' t':=by
 have hno:getM (t.fw.filter fun e=>e.1 != a) a=none:=by rw[Xp,if_pos rfl]
 refine ⟨hb,ho,hn,fun k=>?_, ?_, ?_,by rw[hm]; exact X5 _ _ _ h.o2⟩
 ·rw[hf,hm,Sy]
  unfold uL
  rw[lS,Xp,JW]
  by_cases hk:k=a
  ·rw[if_pos hk,if_pos hk,if_pos hk]; rfl
  ·rw[if_neg hk,if_neg hk,if_neg hk,← h.fw k]
   cases getM t.fw k <;> rfl
 ·rw[hf,hm,g9]
  unfold uL
  have h1:=fk a t.fw h.o1
  rw[h.fw a] at h1
  have h2:=h.fl
  rw[List.length_append]
  simp only[List.length_cons,List.length_nil]
  cases hq:(getM m.fw a).isSome with
  | true=>rw[hq] at h1; simp only[if_true] at h1 ⊢; omega
  | false=>rw[hq] at h1; simp only[Bool.false_eq_true,if_false] at h1 ⊢; omega
 ·rw[hf]
  exact jl _ _ _ (X4 _ _ h.o1) hno
theorem UN.move (h:UN m t) (hI:Inv m) (hS:Sh m) (hP:Pt m) {x j u:Nat} (hs:Start m j) (hx:(D1 m)[x]?=some j) (hu:u<32*m.bls.length) (hfit:2*u+sz m j≤m.wds.length)
  (hap:∀ o,Start m o→o≠j→2*o+sz m o≤2*u∨2*u+sz m j≤2*o):UN (SC m j u) { t with ob:=X9 (t.ob.eraseIdx x) { BE m j with addr:=((2*u:Nat):Int) },fw:=uL t.fw ((2*j:Nat):Int) ((2*u:Nat):Int) }∧Pt (SC m j u):=by
 have hsl:=hS.sl
 have hpl:=hS.pl
 have hz:=hI.size hs
 have tl:=uY 1 m.pnw j
 have hst:=fun y=>gK (m:=m) hS (j:=j) (t:=u) (j':=y) hs.1 hu
 have hno:∀ o,Start m o→o≠j→o≠u:=by
  rintro o ho e rfl
  have:=hap o ho e
  have:=hI.size ho
  omega
 obtain ⟨_,e2,e3,e4⟩:=iL (m':=Ni m j) hx (fun y=>SO hsl hs.1) (fun y hy hne=>R7 hI hy (fun c hc=>Zo hI hs hy hne (by omega) (by omega)) (by
  show FI 1 (Il 1 m.pnw j 0) y=_
  rw[C6 (.inl rfl) (by decide) (Ne.symm hne)]))
 have key:LW (SC m j u)=X9 ((LW m).eraseIdx x) { BE m j with addr:=((2*u:Nat):Int) }:=by
  rw[e4]
  refine mw (j:=u) e2 (fun hm=>?_) (fun y=>?_) (BE m) (JY m) (fun y hy=>?_) ?_
  ·obtain ⟨q1,q2⟩:=(e3 u).1 hm
   exact hno u q2 q1 rfl
  ·rw[hst,e3]
  ·obtain ⟨q1,q2⟩:=(e3 y).1 hy
   refine R7 hI q2 (fun c hc=>gb hI hs hfit hap q2 q1 (by omega) (by omega)) ?_
   show FI 1 (Il 1 (Il 1 m.pnw j 0) u (FI 1 m.pnw j)) y=_
   rw[C6 (.inl rfl) tl (Ne.symm (hno y q2 q1)),C6 (.inl rfl) (by decide) (Ne.symm q1)]
  ·refine gv hI hs (fun c hc=>?_) ?_
   ·rw[Vu hI hs hfit,if_pos (by omega),show 2*j+(2*u+c-2*u)=2*j+c from by omega]
   ·show FI 1 (Il 1 (Il 1 m.pnw j 0) u (FI 1 m.pnw j)) u=_
    rw[Gg (.inl rfl) tl (by rw[Og]; omega)]
 refine ⟨h.fwd _ _ h.bl ?_ h.born rfl rfl,fun y hy hn=>?_⟩
 ·show X9 (t.ob.eraseIdx x) _=_
  rw[key,h.ob]
 ·show FI 1 (Il 1 (Il 1 m.pnw j 0) u (FI 1 m.pnw j)) y=0
  have hy:y<32*m.bls.length:=hy
  have h1:y≠u:=fun e=>hn ((hst y).2 (.inl e))
  rw[C6 (.inl rfl) tl (Ne.symm h1)]
  by_cases e:y=j
  ·subst e; rw[Gg (.inl rfl) (by decide) (by omega)]
  ·rw[C6 (.inl rfl) (by decide) (Ne.symm e)]
   exact hP y hy fun hq=>hn ((hst y).2 (.inr ⟨e,hq⟩))
theorem pQ {m':HM} {x j:Nat} {o:RO} (hx:(D1 m)[x]?=some j) (hst:∀ y,Start m' y↔Start m y) (hr:∀ y,Start m y→y≠j→BE m' y=BE m y) (ho:BE m' j=o):LW m'=(LW m).set x o:=by
 obtain ⟨hxl,hxe⟩:=List.getElem?_eq_some_iff.1 hx
 have hnd:(D1 m).Nodup:=aH _ _
 rw[ko (Qd m) (fun y=>by rw[E9,hst])]
 apply List.ext_getElem?
 intro i
 unfold LW
 rw[List.getElem?_map,List.getElem?_set,List.length_map,List.getElem?_map]
 by_cases e:x=i
 ·subst e
  rw[if_pos rfl,if_pos hxl,hx,← ho]; rfl
 ·rw[if_neg e]
  cases hq:(D1 m)[i]? with
  | none=>rfl
  | some y=>
    obtain ⟨hil,hie⟩:=List.getElem?_eq_some_iff.1 hq
    have hy:Start m y:=E9.1 (hie ▸ List.getElem_mem hil)
    show some _=some _
    rw[hr y hy (fun e'=>e ((List.getElem_inj hnd).1 (hxe.trans (e'.symm.trans hie.symm))))]
theorem mM {m':HM} {a i n:Nat} {v:Int} (hi:i<n) (hal:a+i<m.wds.length) (hw:m'.wds=m.wds.set (a+i) v):Om m' a n=(Om m a n).set i v:=by
 apply List.ext_getElem?
 intro q
 rw[List.getElem?_set,FB]
 by_cases hq:q<n
 ·rw[aA m' n a q hq,hw,Dd]
  by_cases e:i=q
  ·subst e; rw[if_pos ⟨rfl,hal⟩,if_pos rfl,if_pos hi]
  ·rw[if_neg (fun h=>e (by omega)),if_neg e,aA m n a q hq]
 ·rw[List.getElem?_eq_none (by rw[FB]; omega),if_neg (by omega),List.getElem?_eq_none (by rw[FB]; omega)]
theorem mL {m':HM} {a n p:Nat} {v:Int} (h:p<a∨a+n≤p) (hw:m'.wds=m.wds.set p v):Om m' a n=Om m a n:=
 Ya n a a fun q hq=>by rw[hw,Dd,if_neg (by omega)]
theorem UN.word (h:UN m t) (hI:Inv m) (hP:Pt m) {x j q:Nat} (hs:Start m j) (hx:(D1 m)[x]?=some j) (hq:2+q<use m j) (v:Int):
  UN (Rk m (2*j+2+q) v) { t with ob:=t.ob.set x (if (q:Int)<AQ m j then { BE m j with refs:=(BE m j).refs.set q v } else { BE m j with data:=(BE m j).data.set (q-(AQ m j).toNat) v }) }∧Pt (Rk m (2*j+2+q) v):=by
 have hu:=hI.use hs
 have hfit:=hI.fit j hs
 have hst:∀ y,Start (Rk m (2*j+2+q) v) y↔Start m y:=fun y=>Iff.rfl
 obtain ⟨_,r1,r2,r3,r4,_⟩:=XL hI hs
 have key:=nh hI hs (t:=q) (by omega) v
 have e:LW (Rk m (2*j+2+q) v)=(LW m).set x (if (q:Int)<AQ m j then { BE m j with refs:=(BE m j).refs.set q v } else { BE m j with data:=(BE m j).data.set (q-(AQ m j).toNat) v }):=by
  refine pQ hx hst (fun y hy hne=>?_) ?_
  ·refine R7 hI hy (fun c hc=>?_) rfl
   show (m.wds.set _ _).getD _ 0=_
   rw[Dd,if_neg]
   rintro ⟨e,_⟩
   exact hne (ey hI hy hs (a:=2*j+2+q) (by omega) (by omega) (by omega) (by omega))
  ·have k0:=key j hs 0 (by decide)
   have k1:=key j hs 1 (by decide)
   obtain ⟨_,_,er,ed⟩:=YR (m:=m) (m':=Rk m (2*j+2+q) v) (j:=j) (j':=j) k1
   have ek:EG (Rk m (2*j+2+q) v) j=EG m j:=by unfold EG; rw[k1]
   simp only[Nat.add_zero] at k0
   unfold BE
   rw[k0,er,ed,ek]
   by_cases hc:(q:Int)<AQ m j
   ·have a1:Om (Rk m (2*j+2+q) v) (2*j+2) (AQ m j).toNat=(Om m (2*j+2) (AQ m j).toNat).set q v:=mM (by omega) (by omega) rfl
    have a2:Om (Rk m (2*j+2+q) v) (2*j+2+(AQ m j).toNat) (BB m j).toNat=Om m (2*j+2+(AQ m j).toNat) (BB m j).toNat:=mL (p:=2*j+2+q) (v:=v) (by omega) rfl
    rw[if_pos hc,a1,a2]
    rfl
   ·have a1:Om (Rk m (2*j+2+q) v) (2*j+2) (AQ m j).toNat=Om m (2*j+2) (AQ m j).toNat:=mL (p:=2*j+2+q) (v:=v) (by omega) rfl
    have a2:Om (Rk m (2*j+2+q) v) (2*j+2+(AQ m j).toNat) (BB m j).toNat=(Om m (2*j+2+(AQ m j).toNat) (BB m j).toNat).set (q-(AQ m j).toNat) v:=mM (by omega) (by omega) (by
     show m.wds.set _ _=_
     rw[show 2*j+2+q=2*j+2+(AQ m j).toNat+(q-(AQ m j).toNat) from by omega])
    rw[if_neg hc,a1,a2]
    rfl
 exact ⟨h.Cx h.bl (by show t.ob.set x _=_; rw[e,h.ob]) h.born rfl rfl,hP⟩
theorem UN.pins (h:UN m t) (hI:Inv m) (hS:Sh m) (hP:Pt m) {x j:Nat} (hs:Start m j) (hx:(D1 m)[x]?=some j) (b:Bool):
  UN { m with pnw:=Il 1 m.pnw j (if b then 1 else 0) } { t with ob:=t.ob.set x { BE m j with pin:=b } }∧Pt { m with pnw:=Il 1 m.pnw j (if b then 1 else 0) }:=by
 have hpl:=hS.pl
 have hj:=hs.1
 have hb:(if b then 1 else 0)<2 ^ 1:=by cases b <;> decide
 have e:LW { m with pnw:=Il 1 m.pnw j (if b then 1 else 0) }=(LW m).set x { BE m j with pin:=b }:=by
  refine pQ hx (fun y=>Iff.rfl) (fun y hy hne=>R7 hI hy (fun c hc=>rfl) ?_) ?_
  ·show FI 1 (Il 1 m.pnw j _) y=_
   rw[C6 (.inl rfl) hb (Ne.symm hne)]
  ·show (⟨_,_,_,_,_,_,_,decide (FI 1 (Il 1 m.pnw j (if b then 1 else 0)) j=1)⟩:RO)=_
   rw[Gg (.inl rfl) hb (by omega)]
   cases b <;> rfl
 refine ⟨h.Cx h.bl (by show t.ob.set x _=_; rw[e,h.ob]) h.born rfl rfl,fun y hy hn=>?_⟩
 show FI 1 (Il 1 m.pnw j _) y=0
 have hne:y≠j:=fun e=>hn (e ▸ hs)
 rw[C6 (.inl rfl) hb (Ne.symm hne)]
 exact hP y hy hn
theorem UN.forget (h:UN m t):UN { m with fw:=[] } { t with fw:=[] }:=⟨h.bl,h.ob,h.born,fun _=>rfl,rfl,trivial,trivial⟩
theorem UN.blocks (h:UN m t) (l:List (Int × Int)) (hl:l.length=m.bls.length):UN { m with bls:=l } { t with bl:=l }:=by
 refine h.Cx rfl ?_ h.born rfl rfl
 show t.ob=_
 rw[h.ob]
 unfold LW D1
 show _=(Cb { m with bls:=l } 0 (32*l.length)).map _
 rw[hl]; rfl
theorem Pt.blocks (hP:Pt m) (l:List (Int × Int)) (hl:l.length=m.bls.length):Pt { m with bls:=l }:=by
 intro y hy hn
 have hy:y<32*l.length:=hy
 refine hP y (by omega) fun hs=>hn ⟨?_,hs.2⟩
 show y<32*l.length
 exact hy
end Go.Proofs.YtlaplcglpnlieaaGreat
end
section
namespace Go.Proofs.YtlaplcglpnlieaaGreat
open Go Go.AX
noncomputable local instance qRR:Bb:=Az
local instance zg:Kn:=⟨true⟩
variable {σ:Aa} {m:HM} {t:RM}
def Ir (σ:Aa) (s:EJ) (l:List Int):Prop:=s.2.1=l.length∧(l≠[] → ∃ b c,s=(some ⟨b,0,none⟩,l.length,c)∧σ[b]?=some (.cells (CN l) AP true)) ∧ ∀ a,s.1=some a → ∃ cs T w,σ[a.block]?=some (.cells cs T w)∧a.off≤cs.length
def hs (s:EJ):List Nat:=match s.1 with
 | some a=>[a.block]
 | none=>[]
theorem H0 {s:EJ} {b:Nat}:b ∈ hs s ↔ ∃ a,s.1=some a∧a.block=b:=by
 unfold hs
 cases s.1 with
 | none=>simp
 | some a=>simp[eq_comm]
def Bt (o:RO) (p:EJ × EJ):List Value:=[.int .i64 o.addr,.int .i64 o.id,.int .i64 o.r,.int .i64 o.d,.int .i64 o.k,.slice p.1.1 p.1.2.1 p.1.2.2,.slice p.2.1 p.2.2.1 p.2.2.2,.bool o.pin]
def Hm:List RO→List (EJ × EJ)→List Value
 | o::l,p::om=>Bt o p++Hm l om
 | _,_=>[]
theorem XU:∀ (l:List RO) (om:List (EJ × EJ)),om.length=l.length→(Hm l om).length=l.length*8
 | [],[],_=>rfl
 | [],p::om,h=>by simp at h
 | o::l,[],h=>by simp at h
 | o::l,p::om,h=>by
   have:=XU l om (by simpa using h)
   simp[Hm,Bt,this]; omega
theorem jj:∀ (l:List RO) (om:List (EJ × EJ)) (x:Nat) (h:x<l.length) (h':x<om.length) (q:Nat),q<8→(Hm l om)[x*8+q]?=(Bt l[x] om[x])[q]?
 | [],om,x,h,_,_,_=>by simp at h
 | o::l,[],x,_,h',_,_=>by simp at h'
 | o::l,p::om,0,h,h',q,hq=>by
   simp only[Hm,Nat.zero_mul,Nat.zero_add,List.getElem_cons_zero]
   rw[List.getElem?_append_left (by simp[Bt]; omega)]
 | o::l,p::om,x+1,h,h',q,hq=>by
   have ih:=jj l om x (by simpa using h) (by simpa using h') q hq
   simp only[Hm,List.getElem_cons_succ]
   rw[List.getElem?_append_right (by simp[Bt]; omega),show (x+1)*8+q-(Bt o p).length=x*8+q from by simp[Bt]; omega,ih]
def gX (σ:Aa) (s:EJ) (l:List (Int × Int)):Prop:=BU Gt 2 σ s l.length (Cv l)∨(l=[] ∧ ∃ b cs T w,s=(some ⟨b,0,some 0⟩,0,0)∧σ[b]?=some (.cells cs T w))
theorem gX.Cx {σ':Aa} {s:EJ} {l:List (Int × Int)} (h:gX σ s l) (hs:∀ a,s.1=some a→σ'[a.block]?=σ[a.block]?):gX σ' s l:=by
 rcases h with h | ⟨h0,b,cs,T,w,rfl,hc⟩
 ·exact .inl (h.Cx hs)
 ·exact .inr ⟨h0,b,cs,T,w,rfl,(hs _ rfl).trans hc⟩
theorem gX.form {s:EJ} {l:List (Int × Int)} (h:gX σ s l):s=(s.1,l.length,l.length):=by
 rcases h with h | ⟨rfl,b,cs,T,w,rfl,hc⟩
 ·exact h.form
 ·rfl
theorem gX.sl {s:EJ} {l:List (Int × Int)} (h:gX σ s l) {x:Nat} (hx:x<l.length):BU Gt 2 σ s l.length (Cv l):=by
 rcases h with h | ⟨rfl,_⟩
 ·exact h
 ·simp at hx
structure RI where
 hb:Nat
 bs:EJ
 os:EJ
 fs:EJ
 om:List (EJ × EJ)
def RI.l (i:RI):List Nat:=i.hb::(hs i.bs++(hs i.os++(hs i.fs++i.om.flatMap fun p=>hs p.1++hs p.2)))
structure L0 (σ:Aa) (i:RI) (t:RM):Prop where
 hp:σ[i.hb]?=some (.cells [.slice i.bs.1 i.bs.2.1 i.bs.2.2,.slice i.os.1 i.os.2.1 i.os.2.2,.slice i.fs.1 i.fs.2.1 i.fs.2.2,.int .i64 t.born] Cn true)
 bl:BU Aq 2 σ i.bs t.bl.length (Cv t.bl)
 ob:BU Ac 8 σ i.os t.ob.length (Hm t.ob i.om)
 fw:gX σ i.fs t.fw
 ol:i.om.length=t.ob.length
 inn:∀ (x:Nat) (h:x<t.ob.length) (h':x<i.om.length),Ir σ i.om[x].1 t.ob[x].refs∧Ir σ i.om[x].2 t.ob[x].data
 nd:i.l.Nodup
 lt:∀ j ∈ i.l,j<σ.length
theorem Ir.Cx {σ':Aa} {s:EJ} {l:List Int} (h:Ir σ s l) (hs:∀ b ∈ hs s,σ'[b]?=σ[b]?):Ir σ' s l:=by
 refine ⟨h.1,fun hn=>?_,fun a ha=>?_⟩
 ·obtain ⟨b,c,rfl,hc⟩:=h.2.1 hn
  exact ⟨b,c,rfl,(hs b (H0.2 ⟨_,rfl,rfl⟩)).trans hc⟩
 ·obtain ⟨cs,T,w,h1,h2⟩:=h.2.2 a ha
  exact ⟨cs,T,w,(hs _ (H0.2 ⟨a,ha,rfl⟩)).trans h1,h2⟩
theorem RI.N1 (i:RI):i.hb ∈ i.l:=List.mem_cons_self
theorem RI.vJ (i:RI) {b:Nat} (h:b ∈ hs i.bs):b ∈ i.l:=List.mem_cons_of_mem _ (List.mem_append.2 (.inl h))
theorem RI.wg (i:RI) {b:Nat} (h:b ∈ hs i.os):b ∈ i.l:=List.mem_cons_of_mem _ (List.mem_append.2 (.inr (List.mem_append.2 (.inl h))))
theorem RI.vP (i:RI) {b:Nat} (h:b ∈ hs i.fs):b ∈ i.l:=List.mem_cons_of_mem _ (List.mem_append.2 (.inr (List.mem_append.2 (.inr (List.mem_append.2 (.inl h))))))
theorem RI.OP (i:RI) {b x:Nat} (hx:x<i.om.length) (h:b ∈ hs i.om[x].1∨b ∈ hs i.om[x].2):b ∈ i.l:=
 List.mem_cons_of_mem _ (List.mem_append.2 (.inr (List.mem_append.2 (.inr (List.mem_append.2 (.inr (List.mem_flatMap.2 ⟨_,List.getElem_mem hx,List.mem_append.2 h⟩)))))))
theorem L0.Cx {σ':Aa} {i:RI} (h:L0 σ i t) (hs:∀ j ∈ i.l,σ'[j]?=σ[j]?) (hl:σ.length≤σ'.length):L0 σ' i t where
 hp:=(hs _ i.N1).trans h.hp
 bl:=h.bl.Cx fun a ha=>hs _ (i.vJ (H0.2 ⟨a,ha,rfl⟩))
 ob:=h.ob.Cx fun a ha=>hs _ (i.wg (H0.2 ⟨a,ha,rfl⟩))
 fw:=h.fw.Cx fun a ha=>hs _ (i.vP (H0.2 ⟨a,ha,rfl⟩))
 ol:=h.ol
 inn:=fun x p q=>⟨(h.inn x p q).1.Cx fun b hb=>hs _ (i.OP q (.inl hb)),(h.inn x p q).2.Cx fun b hb=>hs _ (i.OP q (.inr hb))⟩
 nd:=h.nd
 lt:=fun j hj=>Nat.lt_of_lt_of_le (h.lt j hj) hl
theorem L0.app {i:RI} (h:L0 σ i t) (τ:Aa):L0 (σ++τ) i t:=h.Cx (fun j hj=>List.getElem?_append_left (h.lt j hj)) (by simp)
abbrev AY (i:RI):Option Addr:=some ⟨i.hb,0,none⟩
variable {i:RI}
theorem L0.SX (h:L0 σ i t):Cr σ i.hb 0=some (i.bs.1,t.bl.length,t.bl.length):=by
 have:=h.bl.form
 simp only[Cr,Gr,h.hp]
 rw[this]; simp[Gp]
theorem L0.HA (h:L0 σ i t):Cr σ i.hb 1=some (i.os.1,t.ob.length,t.ob.length):=by
 have:=h.ob.form
 simp only[Cr,Gr,h.hp]
 rw[this]; simp[Gp]
theorem L0.kP (h:L0 σ i t):Cr σ i.hb 2=some (i.fs.1,t.fw.length,t.fw.length):=by
 have:=h.fw.form
 simp only[Cr,Gr,h.hp]
 rw[this]; simp[Gp]
theorem L0.uE (h:L0 σ i t):Ak .i64 σ i.hb 3=some t.born:=by simp[Ak,Gr,h.hp,Bu]
theorem Vy {E:TypeId} {sl:EJ} {l:List (Int × Int)} (h:BU E 2 σ sl l.length (Cv l)) {x:Nat} (hx:x<l.length):∃ b,sl.1=some ⟨b,0,none⟩∧Ak .i64 σ b (x*2)=some (l.getD x (0,0)).1∧Ak .i64 σ b (x*2+1)=some (l.getD x (0,0)).2∧σ[b]?=some (.cells (Cv l) E true):=by
 rcases h with ⟨h0,_⟩ | ⟨b,rfl,_,_,hc⟩
 ·omega
 ·obtain ⟨g0,g1⟩:=Ur l x hx
  rw[Nat.mul_comm] at g0 g1
  refine ⟨b,rfl, ?_, ?_,hc⟩
  ·simp only[Ak,Gr,hc,g0,Option.bind_some,Am]
  ·simp only[Ak,Gr,hc,g1,Option.bind_some,Am]
structure vB (σ:Aa) (b x:Nat) (o:RO) (p:EJ × EJ):Prop where
 l0:Ak .i64 σ b (x*8)=some o.addr
 l1:Ak .i64 σ b (x*8+1)=some o.id
 l2:Ak .i64 σ b (x*8+2)=some o.r
 l3:Ak .i64 σ b (x*8+3)=some o.d
 l4:Ak .i64 σ b (x*8+4)=some o.k
 l5:Cr σ b (x*8+5)=some (p.1.1,p.1.2.1,p.1.2.2)
 l6:Cr σ b (x*8+6)=some (p.2.1,p.2.2.1,p.2.2.2)
 l7:UP σ b (x*8+7)=some o.pin
theorem L0.obj (h:L0 σ i t) {x:Nat} (hx:x<t.ob.length):∃ b,i.os.1=some ⟨b,0,none⟩∧σ[b]?=some (.cells (Hm t.ob i.om) Ac true) ∧ ∀ (h':x<i.om.length),vB σ b x t.ob[x] i.om[x]:=by
 rcases h.ob with ⟨h0,_⟩ | ⟨b,e,_,_,hc⟩
 ·omega
 ·refine ⟨b,by rw[e],hc,fun h'=>?_⟩
  have g:=fun q hq=>jj t.ob i.om x hx h' q hq
  have g0:=g 0 (by decide)
  rw[Nat.add_zero] at g0
  constructor
  ·simp only[Ak,Gr,hc,g0]; rfl
  ·simp only[Ak,Gr,hc,g 1 (by decide)]; rfl
  ·simp only[Ak,Gr,hc,g 2 (by decide)]; rfl
  ·simp only[Ak,Gr,hc,g 3 (by decide)]; rfl
  ·simp only[Ak,Gr,hc,g 4 (by decide)]; rfl
  ·simp only[Cr,Gr,hc,g 5 (by decide)]; rfl
  ·simp only[Cr,Gr,hc,g 6 (by decide)]; rfl
  ·simp only[UP,Gr,hc,g 7 (by decide)]; rfl
theorem gu (k:Nat) (h:L0 σ i t) (hb:t.bl≠[]):Ai (k+1) (AY i) σ=some (.bool true,σ):=by
 have:0<t.bl.length:=List.length_pos_iff.2 hb
 rw[Qr,Oy]
 simp only[fc,Option.bind_some,Bool.not_false,cond_true,Nat.zero_add,Nat.add_zero,h.SX]
 rw[decide_eq_true (by omega)]
theorem aq (k:Nat) (h:L0 σ i t) (hn:t.ob.length≤5000) (a:Int):∀ (n x f:Nat),x+n=t.ob.length→n<f→EW k f (AY i) a (x:Int) σ=some (match Rw (t.ob.drop x) a with | some y=>(.ret,[.int .i64 ((x+y:Nat):Int)],σ) | none=>(.exit 0,[],σ))
 | 0,x,0,hx,hf=>by omega
 | 0,x,f+1,hx,hf=>by
   rw[MW,KZ,List.drop_eq_nil_of_le (by omega)]
   have q:decide ((x:Int)<((t.ob.length:Nat):Int))=false:=decide_eq_false (by omega)
   simp only[Option.bind_some,Nat.zero_add,Nat.add_zero,h.HA,q,cond_false,Rw]
 | n+1,x,0,hx,hf=>by omega
 | n+1,x,f+1,hx,hf=>by
   have hxl:x<t.ob.length:=by omega
   have ih:=aq k h hn a n (x+1) f (by omega) (by omega)
   obtain ⟨b,eb,_,L⟩:=h.obj hxl
   have L:=L (by rw[h.ol]; exact hxl)
   rw[List.drop_eq_getElem_cons hxl,MW,KZ,Rw]
   have q:decide ((x:Int)<((t.ob.length:Nat):Int))=true:=decide_eq_true (by omega)
   have qx:(0≤(x:Int)∧(x:Int)<((t.ob.length:Nat):Int))=True:=eq_true (by omega)
   have w1:Ae ((x:Int)+1)=((x+1:Nat):Int):=Ad (by unfold AV; omega)
   simp only[Option.bind_some,Nat.zero_add,Nat.add_zero,h.HA,q,cond_true,qx,if_true,eb,Int.toNat_natCast,L.l0,w1]
   by_cases e:t.ob[x].addr=a
   ·rw[if_pos e,beq_iff_eq.2 e]; simp only[cond_true,Nat.add_zero]
   ·rw[if_neg e,beq_eq_false_iff_ne.2 e]
    simp only[cond_false,ih]
    cases Rw (t.ob.drop (x+1)) a with
    | none=>rfl
    | some y=>simp only[Option.map_some,show x+(y+1)=x+1+y from by omega]
def jZ (l:List RO) (a:Int):Int:=match Rw l a with
 | some x=>(x:Int)
 | none=>-1
theorem jw (k:Nat) (hk:5000≤k) (h:L0 σ i t) (hb:t.bl≠[]) (hn:t.ob.length≤5000) (a:Int):AA (k+2) (AY i) a σ=some (.int .i64 (jZ t.ob a),σ):=by
 have e:=aq (k+1) h hn a t.ob.length 0 (k+1) (by omega) (by omega)
 rw[List.drop_zero,show ((0:Nat):Int)=0 from rfl] at e
 rw[Wi,RP]
 simp only[gu k h hb,Option.bind_some,Ao,Bool.not_true,cond_false,e,jZ]
 cases Rw t.ob a with
 | none=>simp only[if_true]
 | some y=>simp only[reduceCtorEq,if_false,if_true,DQ,Nat.zero_add]
theorem sO {l:List RO} {a:Int}:decide (jZ l a<0)=(Rw l a).isNone:=by
 unfold jZ
 cases Rw l a with
 | none=>rfl
 | some y=>exact decide_eq_false (show ¬ ((y:Nat):Int)<0 by omega)
theorem rz (k:Nat) (hk:5000≤k) (h:L0 σ i t) (hb:t.bl≠[]) (hn:t.ob.length≤5000) (a:Int):BI (k+3) (AY i) a σ=some (.int .i64 (if (Rw t.ob a).isSome then 0 else 4),σ):=by
 rw[Wr,RZ]
 simp only[gu (k+1) h hb,Option.bind_some,Ao,Bool.not_true,cond_false,jw k hk h hb hn a,Am,sO]
 cases Rw t.ob a <;> rfl
end Go.Proofs.YtlaplcglpnlieaaGreat
end
section
namespace Go.Proofs.YtlaplcglpnlieaaGreat
open Go Go.AX
noncomputable local instance qRS:Bb:=Az
local instance zh:Kn:=⟨true⟩
variable {σ:Aa} {m:HM} {t:RM} {i:RI}
structure RG (σ:Aa) (i:RI) (m:HM) (t:RM):Prop where
 at_:L0 σ i t
 sim:UN m t
 inv:Inv m
 inv2:Inv2 m
 wl:m.wds.length=64*m.bls.length
 nb:2≤m.bls.length
 nt:m.bls.length≤64
theorem RG.app (h:RG σ i m t) (τ:Aa):RG (σ++τ) i m t:=⟨h.at_.app τ,h.sim,h.inv,h.inv2,h.wl,h.nb,h.nt⟩
theorem RG.Cx {σ':Aa} (h:RG σ i m t) (hs:∀ j ∈ i.l,σ'[j]?=σ[j]?) (hl:σ.length≤σ'.length):RG σ' i m t:=⟨h.at_.Cx hs hl,h.sim,h.inv,h.inv2,h.wl,h.nb,h.nt⟩
theorem RG.bn (h:RG σ i m t):t.bl.length=m.bls.length:=by rw[h.sim.bl]
theorem RG.ne (h:RG σ i m t):t.bl≠[]:=by
 intro e
 have:=h.bn
 have:=h.nb
 rw[e] at *
 simp at *
 omega
theorem RG.ol (h:RG σ i m t):t.ob.length≤2048:=by
 rw[h.sim.ob]
 have:=KK m 0 (32*m.bls.length)
 have:=h.nt
 unfold LW D1
 rw[List.length_map]
 omega
theorem FD (k:Nat) (h:RG σ i m t):Ai (k+1) (AY i) σ=some (.bool true,σ):=gu k h.at_ h.ne
theorem Ir.vt {s:EJ} {l:List Int} (h:Ir σ s l) {x:Nat} (hx:x<l.length):∃ b,s.1=some ⟨b,0,none⟩∧Ak .i64 σ b x=some (l.getD x 0)∧σ[b]?=some (.cells (CN l) AP true):=by
 obtain ⟨b,c,rfl,hc⟩:=h.2.1 (fun e=>by rw[e] at hx; simp at hx)
 exact ⟨b,rfl,sX hc hx,hc⟩
structure Found (σ:Aa) (i:RI) (m:HM) (t:RM) (a:Int) (x j b:Nat) (p:EJ × EJ):Prop where
 idx:jZ t.ob a=(x:Int)
 idx':Rw t.ob a=some x
 xl:x<t.ob.length
 st:Start m j
 e:a=((2*j:Nat):Int)
 all:(D1 m)[x]?=some j
 ob:t.ob[x]?=some (BE m j)
 os:i.os.1=some ⟨b,0,none⟩
 cell:σ[b]?=some (.cells (Hm t.ob i.om) Ac true)
 om:i.om[x]?=some p
 ld:vB σ b x (BE m j) p
 rs:Ir σ p.1 (BE m j).refs
 ds:Ir σ p.2 (BE m j).data
theorem RG.found (h:RG σ i m t) {a:Int} (hh:I0 m a=true):∃ x j b p,Found σ i m t a x j b p:=by
 obtain ⟨h1,h2⟩:=h.sim.idx a
 cases hq:Rw t.ob a with
 | none=>rw[h2 hq] at hh; cases hh
 | some x=>
   obtain ⟨q1,j,q2,q3,_,q5,q6⟩:=h1 x hq
   obtain ⟨b,e1,e2,L⟩:=h.at_.obj q1
   have hom:x<i.om.length:=by rw[h.at_.ol]; exact q1
   have eo:t.ob[x]=BE m j:=by rw[List.getElem?_eq_getElem q1] at q6; exact Option.some.inj q6
   have L:=L hom
   rw[eo] at L
   obtain ⟨n1,n2⟩:=h.at_.inn x q1 hom
   rw[eo] at n1 n2
   exact ⟨x,j,b,i.om[x],by unfold jZ; rw[hq],hq,q1,q2,q3,q5,q6,e1,e2,List.getElem?_eq_getElem hom,L,n1,n2⟩
theorem RG.lost (h:RG σ i m t) {a:Int} (hh:I0 m a=false):jZ t.ob a = -1∧Rw t.ob a=none:=by
 have:=h.sim.has a
 rw[hh] at this
 unfold jZ
 cases hq:Rw t.ob a with
 | none=>exact ⟨rfl,rfl⟩
 | some x=>rw[hq] at this; cases this
theorem OQ (k:Nat) (hk:5000≤k) (h:RG σ i m t) (a:Int):AA (k+2) (AY i) a σ=some (.int .i64 (jZ t.ob a),σ):=jw k hk h.at_ h.ne (by have:=h.ol; omega) a
theorem XD (k:Nat) (hk:5000≤k) (h:RG σ i m t) (a:Int):BI (k+3) (AY i) a σ=some (.int .i64 (if I0 m a then 0 else 4),σ):=by
 rw[rz k hk h.at_ h.ne (by have:=h.ol; omega) a,h.sim.has]
theorem uM (k:Nat) (hk:5000≤k) (h:RG σ i m t) (a:Int):HP (k+3) (AY i) a σ=some (.bool (I0 m a),σ):=by
 rw[Yr,Un]
 simp only[OQ k hk h a,Option.bind_some,Am]
 cases hh:I0 m a with
 | true=>
   obtain ⟨x,j,b,p,F⟩:=h.found hh
   rw[F.idx,decide_eq_true (by omega)]
 | false=>rw[(h.lost hh).1]; rfl
theorem vY:((4:Int) != 0)=true:=rfl
theorem ri (k:Nat) (hk:5000≤k) (h:RG σ i m t) (a:Int):Fl (k+4) (AY i) a σ=some (if I0 m a then .tuple #[.int .i64 (m.wds.getD a.toNat 0),.int .i64 0] else .tuple #[.int .i64 0,.int .i64 4],σ):=by
 rw[Wh,RN]
 have hix:=OQ (k+1) (by omega) h a
 simp only[XD k hk h a,Option.bind_some,Am]
 cases hh:I0 m a with
 | true=>
   obtain ⟨x,j,b,p,F⟩:=h.found hh
   have hx:=F.xl
   simp only[if_true,bne_self_eq_false,cond_false,Option.bind_some,Nat.zero_add,h.at_.HA,hix,Am,F.idx]
   rw[if_pos (by omega)]
   simp only[F.os,Option.bind_some,Int.toNat_natCast,Nat.zero_add,F.ld.l1]
   rw[F.e,Int.toNat_natCast]; rfl
 | false=>simp only[Bool.false_eq_true,if_false,vY,cond_true]
theorem pR {σ:Aa} {cs vs:List Value} {T:TypeId} (h:vs.length=cs.length):Ip (σ++[.cells cs T true]) σ.length 0 vs=some (σ++[.cells vs T true]):=by
 simp only[Ip,List.getElem?_concat_length]
 rw[if_pos (by omega)]
 simp[AN,h]
theorem aG (σ:Aa) (T:TypeId) (a b c x y z:Value):Ip (σ++[.cells [a,b,c] T true]) σ.length 0 [x,y,z]=some (σ++[.cells [x,y,z] T true]):=pR rfl
theorem XI (σ:Aa) (T:TypeId) (a b c d e f g h x y z u v w p q:Value):Ip (σ++[.cells [a,b,c,d,e,f,g,h] T true]) σ.length 0 [x,y,z,u,v,w,p,q]=some (σ++[.cells [x,y,z,u,v,w,p,q] T true]):=pR rfl
theorem dK (σ:Aa) (vs:List Value) (T:TypeId) (rw':Bool) (o:Nat):Cr (σ++[.cells vs T rw']) σ.length o=(vs[o]?).bind Gp:=by simp[Cr,Gr]
def oN (m:HM) (j:Nat):Value:=.agg #[.int .i64 (AQ m j),.int .i64 (BB m j),.int .i64 (EG m j)]
def oM:Value:=.agg #[.int .i64 0,.int .i64 0,.int .i64 0]
theorem rm (k:Nat) (hk:5000≤k) (h:RG σ i m t) (a:Int):∃ τ,Ic (k+4) (AY i) a σ=some (.tuple #[if I0 m a then oN m (a.toNat/2) else oM,.int .i64 (if I0 m a then 0 else 4)],σ++τ):=by
 rw[Wm,RT]
 simp only[An]
 have h1:=h.app [AJ.cells [.int .i64 (0:Int),.int .i64 (0:Int),.int .i64 (0:Int)] Ag true]
 have hix:=OQ (k+1) (by omega) h1 a
 simp only[XD k hk h1 a,Option.bind_some,Am]
 have hN:∀ x y z:Value,R5 (σ++[AJ.cells [x,y,z] Ag true]) σ.length 0 3=some [x,y,z]:=fun x y z=>by simp[R5]
 cases hh:I0 m a with
 | true=>
   obtain ⟨x,j,b,p,F⟩:=h1.found hh
   have hx:=F.xl
   refine ⟨[AJ.cells [.int .i64 (AQ m j),.int .i64 (BB m j),.int .i64 (EG m j)] Ag true], ?_⟩
   simp only[if_true,bne_self_eq_false,cond_false,Option.bind_some,Nat.zero_add,h1.at_.HA,hix,Am,F.idx]
   rw[if_pos (by omega)]
   simp only[F.os,Option.bind_some,Int.toNat_natCast,Nat.zero_add,Nat.add_assoc,Nat.reduceAdd,F.ld.l2,F.ld.l3,F.ld.l4,aG,hN,LV]
   rw[F.e,Int.toNat_natCast,show 2*j/2=j from by omega]; rfl
 | false=>
   refine ⟨[AJ.cells [.int .i64 0,.int .i64 0,.int .i64 0] Ag true], ?_⟩
   simp only[Bool.false_eq_true,if_false,vY,cond_true,aG,Option.bind_some,hN,LV]
   rfl
def dx (m:HM) (a x:Int) (data:Bool):Int × Int:=if (Ft m a x data).2=0 then (m.wds.getD (Ft m a x data).1.toNat 0,0) else (0,(Ft m a x data).2)
theorem XZ (m:HM) {n a q:Nat} (h:q<n):(Om m a n).getD q 0=m.wds.getD (a+q) 0:=by
 rw[List.getD_eq_getElem?_getD,aA m n a q h]; rfl
theorem uO (k:Nat) (hk:5000≤k) (h:RG σ i m t) (a x:Int):∃ τ,JR (k+4) (AY i) a x σ=some (.tuple #[.int .i64 (dx m a x false).1,.int .i64 (dx m a x false).2],σ++τ):=by
 rw[Ys,Uo]
 have hix:=OQ (k+1) (by omega) h a
 simp only[XD k hk h a,Option.bind_some,Am]
 unfold dx Ft
 cases hh:I0 m a with
 | true=>
   obtain ⟨y,j,b,p,F⟩:=h.found hh
   have hx:=F.xl
   obtain ⟨_,r1,r2,r3,r4,_⟩:=XL h.inv F.st
   have rl:p.1.2.1=(AQ m j).toNat:=by rw[F.rs.1]; exact FB _ _ _
   have ea:a.toNat/2=j:=by rw[F.e,Int.toNat_natCast]; omega
   simp only[if_true,bne_self_eq_false,cond_false,Option.bind_some,Nat.zero_add,h.at_.HA,hix,Am,F.idx]
   rw[if_pos (by omega)]
   simp only[F.os,Option.bind_some,Int.toNat_natCast,Nat.zero_add,Nat.add_assoc,Nat.reduceAdd,F.ld.l0,F.ld.l1,F.ld.l2,F.ld.l3,F.ld.l4,F.ld.l5,F.ld.l6,F.ld.l7,An,XI,dK,List.getElem?_cons_succ,List.getElem?_cons_zero,Gp,ea,rl]
   have F':=F.rs.Cx (σ':=σ++[.cells [.int .i64 (BE m j).addr,.int .i64 (BE m j).id,.int .i64 (BE m j).r,.int .i64 (BE m j).d,.int .i64 (BE m j).k,.slice p.1.1 p.1.2.1 p.1.2.2,.slice p.2.1 p.2.2.1 p.2.2.2,.bool (BE m j).pin] Ac true]) (fun q hq=>List.getElem?_append_left (h.at_.lt _ (i.OP (by rw[h.at_.ol]; exact hx) (.inl (by
    have:=F.om; rw[List.getElem?_eq_getElem (by rw[h.at_.ol]; exact hx)] at this; rw[Option.some.inj this]; exact hq)))))
   rw[rl] at F'
   refine ⟨[.cells [.int .i64 (BE m j).addr,.int .i64 (BE m j).id,.int .i64 (BE m j).r,.int .i64 (BE m j).d,.int .i64 (BE m j).k,.slice p.1.1 (AQ m j).toNat p.1.2.2,.slice p.2.1 p.2.2.1 p.2.2.2,.bool (BE m j).pin] Ac true], ?_⟩
   by_cases hxx:0≤x∧x<AQ m j
   ·obtain ⟨n,rfl⟩:∃ n:Nat,x=(n:Int):=⟨x.toNat,by omega⟩
    rw[decide_eq_false (show ¬ (n:Int)<0 by omega),decide_eq_false (show ¬ (n:Int)≥(((AQ m j).toNat:Nat):Int) by omega)]
    obtain ⟨b2,e2,l2,_⟩:=F'.vt (x:=n) (by show n<(Om m _ _).length; rw[FB]; omega)
    have qx:(0≤(n:Int)∧(n:Int)<(((AQ m j).toNat:Nat):Int))=True:=eq_true (by omega)
    have hxx':(0≤(n:Int)∧(n:Int)<AQ m j)=True:=eq_true hxx
    rw[e2] at l2
    simp only[cond_false,Option.bind_some,dK,List.getElem?_cons_succ,List.getElem?_cons_zero,Gp,qx,if_true,e2,Int.toNat_natCast,Nat.zero_add,Nat.mul_one,l2,Bool.false_eq_true,if_false,hxx']
    rw[show (BE m j).refs.getD n 0=m.wds.getD (2*j+2+n) 0 from XZ m (by omega),F.e]
    rw[show (((2*j:Nat):Int)+2+0+(n:Int)).toNat=2*j+2+n from by omega]
   ·simp only[Bool.false_eq_true,if_false,hxx]
    by_cases h0:x<0
    ·rw[decide_eq_true h0]
     simp only[cond_true,Option.bind_some]
     rfl
    ·rw[decide_eq_false h0,decide_eq_true (show x≥(((AQ m j).toNat:Nat):Int) by omega)]
     simp only[cond_false,cond_true,Option.bind_some]
     rfl
 | false=>
   refine ⟨[], ?_⟩
   simp only[Bool.false_eq_true,if_false,vY,cond_true,List.append_nil]
   rfl
theorem tq (k:Nat) (hk:5000≤k) (h:RG σ i m t) (a x:Int):∃ τ,IP (k+4) (AY i) a x σ=some (.tuple #[.int .i64 (dx m a x true).1,.int .i64 (dx m a x true).2],σ++τ):=by
 rw[Xb,Tk]
 have hix:=OQ (k+1) (by omega) h a
 simp only[XD k hk h a,Option.bind_some,Am]
 unfold dx Ft
 cases hh:I0 m a with
 | true=>
   obtain ⟨y,j,b,p,F⟩:=h.found hh
   have hx:=F.xl
   obtain ⟨_,r1,r2,r3,r4,_⟩:=XL h.inv F.st
   have rl:p.2.2.1=(BB m j).toNat:=by rw[F.ds.1]; exact FB _ _ _
   have ea:a.toNat/2=j:=by rw[F.e,Int.toNat_natCast]; omega
   simp only[if_true,bne_self_eq_false,cond_false,Option.bind_some,Nat.zero_add,h.at_.HA,hix,Am,F.idx]
   rw[if_pos (by omega)]
   simp only[F.os,Option.bind_some,Int.toNat_natCast,Nat.zero_add,Nat.add_assoc,Nat.reduceAdd,F.ld.l0,F.ld.l1,F.ld.l2,F.ld.l3,F.ld.l4,F.ld.l5,F.ld.l6,F.ld.l7,An,XI,dK,List.getElem?_cons_succ,List.getElem?_cons_zero,Gp,ea,rl]
   have F':=F.ds.Cx (σ':=σ++[.cells [.int .i64 (BE m j).addr,.int .i64 (BE m j).id,.int .i64 (BE m j).r,.int .i64 (BE m j).d,.int .i64 (BE m j).k,.slice p.1.1 p.1.2.1 p.1.2.2,.slice p.2.1 p.2.2.1 p.2.2.2,.bool (BE m j).pin] Ac true]) (fun q hq=>List.getElem?_append_left (h.at_.lt _ (i.OP (by rw[h.at_.ol]; exact hx) (.inr (by
    have:=F.om; rw[List.getElem?_eq_getElem (by rw[h.at_.ol]; exact hx)] at this; rw[Option.some.inj this]; exact hq)))))
   rw[rl] at F'
   refine ⟨[.cells [.int .i64 (BE m j).addr,.int .i64 (BE m j).id,.int .i64 (BE m j).r,.int .i64 (BE m j).d,.int .i64 (BE m j).k,.slice p.1.1 p.1.2.1 p.1.2.2,.slice p.2.1 (BB m j).toNat p.2.2.2,.bool (BE m j).pin] Ac true], ?_⟩
   by_cases hxx:0≤x∧x<BB m j
   ·obtain ⟨n,rfl⟩:∃ n:Nat,x=(n:Int):=⟨x.toNat,by omega⟩
    rw[decide_eq_false (show ¬ (n:Int)<0 by omega),decide_eq_false (show ¬ (n:Int)≥(((BB m j).toNat:Nat):Int) by omega)]
    obtain ⟨b2,e2,l2,_⟩:=F'.vt (x:=n) (by show n<(Om m _ _).length; rw[FB]; omega)
    have qx:(0≤(n:Int)∧(n:Int)<(((BB m j).toNat:Nat):Int))=True:=eq_true (by omega)
    have hxx':(0≤(n:Int)∧(n:Int)<BB m j)=True:=eq_true hxx
    rw[e2] at l2
    simp only[cond_false,Option.bind_some,dK,List.getElem?_cons_succ,List.getElem?_cons_zero,Gp,qx,if_true,e2,Int.toNat_natCast,Nat.zero_add,Nat.mul_one,l2,hxx']
    rw[show (BE m j).data.getD n 0=m.wds.getD (2*j+2+(AQ m j).toNat+n) 0 from XZ m (by omega),F.e]
    rw[show (((2*j:Nat):Int)+2+AQ m j+(n:Int)).toNat=2*j+2+(AQ m j).toNat+n from by omega]
   ·simp only[if_true,hxx,if_false]
    by_cases h0:x<0
    ·rw[decide_eq_true h0]
     simp only[cond_true,Option.bind_some]
     rfl
    ·rw[decide_eq_false h0,decide_eq_true (show x≥(((BB m j).toNat:Nat):Int) by omega)]
     simp only[cond_false,cond_true,Option.bind_some]
     rfl
 | false=>
   refine ⟨[], ?_⟩
   simp only[Bool.false_eq_true,if_false,vY,cond_true,List.append_nil]
   rfl
theorem oI (k:Nat) (hk:5000≤k) (h:RG σ i m t) (a:Int):Gm (k+3) (AY i) a σ=some (.bool (uG m a),σ):=by
 rw[Vl,QP]
 simp only[OQ k hk h a,Option.bind_some,Am]
 unfold uG
 cases hh:I0 m a with
 | true=>
   obtain ⟨x,j,b,p,F⟩:=h.found hh
   have hx:=F.xl
   rw[F.idx,decide_eq_true (by omega)]
   simp only[cond_true,Option.bind_some,Nat.zero_add,h.at_.HA]
   rw[if_pos (by omega)]
   simp only[F.os,Option.bind_some,Int.toNat_natCast,Nat.zero_add,F.ld.l7,Bool.true_and]
   rw[F.e,Int.toNat_natCast,show 2*j/2=j from by omega]; rfl
 | false=>rw[(h.lost hh).1]; rfl
theorem Jr (k:Nat) (h:RG σ i m t):Ay (k+2) (AY i) σ=some (.int .i64 ((m.bls.length:Nat):Int),σ):=by
 rw[Vk,QO]
 simp only[FD k h,Option.bind_some,Ao,Bool.not_true,cond_false,Nat.zero_add,Nat.add_zero,h.at_.SX,h.bn]
theorem Zs (k:Nat) (h:RG σ i m t):CP (k+2) (AY i) σ=some (.int .i64 m.births,σ):=by
 rw[Vj,QN]
 simp only[FD k h,Option.bind_some,Ao,Bool.not_true,cond_false,Nat.zero_add,h.at_.uE,h.sim.born]
def Ij (m:HM) (b:Int):Int:=if 0≤b∧b<(m.bls.length:Int) then (m.bls.getD b.toNat (0,0)).1 else -1
def VF (m:HM) (b:Int):Int:=if 0≤b∧b<(m.bls.length:Int) then (m.bls.getD b.toNat (0,0)).2 else -1
theorem PH (k:Nat) (h:RG σ i m t) (b:Int):AL (k+2) (AY i) b σ=some (.int .i64 (Ij m b),σ):=by
 rw[Wo,RW]
 simp only[FD k h,Option.bind_some,Ao,Bool.not_true,cond_false]
 unfold Ij
 by_cases h0:b<0
 ·rw[decide_eq_true h0,if_neg (by omega)]
  simp only[cond_true,Option.bind_some]
 rw[decide_eq_false h0]
 simp only[cond_false,Option.bind_some,Nat.zero_add,Nat.add_zero,h.at_.SX,h.bn]
 by_cases h1:b≥(m.bls.length:Int)
 ·have q:(0≤b∧b<(m.bls.length:Int))=False:=eq_false (by omega)
  simp only[decide_eq_true h1,q,if_false,cond_true]
 rw[decide_eq_false h1,if_pos (by omega),if_pos (by omega)]
 obtain ⟨n,rfl⟩:∃ n:Nat,b=(n:Int):=⟨b.toNat,by omega⟩
 obtain ⟨q,e,l0,l1,_⟩:=Vy h.at_.bl (x:=n) (by rw[h.bn]; omega)
 rw[h.sim.bl] at l0
 simp only[cond_false,e,Option.bind_some,Int.toNat_natCast,Nat.zero_add,l0]
theorem XW (k:Nat) (h:RG σ i m t) (b:Int):B3 (k+2) (AY i) b σ=some (.int .i64 (VF m b),σ):=by
 rw[Wn,RU]
 simp only[FD k h,Option.bind_some,Ao,Bool.not_true,cond_false]
 unfold VF
 by_cases h0:b<0
 ·rw[decide_eq_true h0,if_neg (by omega)]
  simp only[cond_true,Option.bind_some]
 rw[decide_eq_false h0]
 simp only[cond_false,Option.bind_some,Nat.zero_add,Nat.add_zero,h.at_.SX,h.bn]
 by_cases h1:b≥(m.bls.length:Int)
 ·have q:(0≤b∧b<(m.bls.length:Int))=False:=eq_false (by omega)
  simp only[decide_eq_true h1,q,if_false,cond_true]
 rw[decide_eq_false h1,if_pos (by omega),if_pos (by omega)]
 obtain ⟨n,rfl⟩:∃ n:Nat,b=(n:Int):=⟨b.toNat,by omega⟩
 obtain ⟨q,e,l0,l1,_⟩:=Vy h.at_.bl (x:=n) (by rw[h.bn]; omega)
 rw[h.sim.bl] at l1
 simp only[cond_false,e,Option.bind_some,Int.toNat_natCast,Nat.zero_add,l1]
theorem X8 (k:Nat) (h:L0 σ i t) (hn:t.fw.length≤100000) (a:Int):∀ (n x f:Nat),x+n=t.fw.length→n<f→E3 k f (AY i) a (x:Int) σ=some (match getM (t.fw.drop x) a with | some v=>(.ret,[.int .i64 v,.int .i64 0],σ) | none=>(.exit 0,[],σ))
 | 0,x,0,hx,hf=>by omega
 | 0,x,f+1,hx,hf=>by
   rw[LN,JG,List.drop_eq_nil_of_le (by omega)]
   have q:decide ((x:Int)<((t.fw.length:Nat):Int))=false:=decide_eq_false (by omega)
   simp only[Option.bind_some,Nat.zero_add,Nat.add_zero,h.kP,q,cond_false,getM,List.find?_nil,Option.map_none]
 | n+1,x,0,hx,hf=>by omega
 | n+1,x,f+1,hx,hf=>by
   have hxl:x<t.fw.length:=by omega
   have ih:=X8 k h hn a n (x+1) f (by omega) (by omega)
   obtain ⟨b,e,l0,l1,_⟩:=Vy (h.fw.sl hxl) hxl
   rw[List.getD_eq_getElem?_getD,List.getElem?_eq_getElem hxl,Option.getD_some] at l0 l1
   rw[List.drop_eq_getElem_cons hxl,LN,JG]
   have eg:getM (t.fw[x]::t.fw.drop (x+1)) a=if a=t.fw[x].1 then some t.fw[x].2 else getM (t.fw.drop (x+1)) a:=JW _ _ _ _
   rw[eg]
   have q:decide ((x:Int)<((t.fw.length:Nat):Int))=true:=decide_eq_true (by omega)
   have qx:(0≤(x:Int)∧(x:Int)<((t.fw.length:Nat):Int))=True:=eq_true (by omega)
   have w1:Ae ((x:Int)+1)=((x+1:Nat):Int):=Ad (by unfold AV; omega)
   simp only[Option.bind_some,Nat.zero_add,Nat.add_zero,h.kP,q,cond_true,qx,if_true,e,Int.toNat_natCast,l0,l1,w1]
   by_cases ea:a=t.fw[x].1
   ·rw[if_pos ea,beq_iff_eq.2 ea.symm]; simp only[cond_true]
   ·rw[if_neg ea,beq_eq_false_iff_ne.2 (Ne.symm ea)]
    simp only[cond_false,ih]
theorem mo (k:Nat) (h:RG σ i m t) (hn:t.fw.length≤k) (hn1:t.fw.length≤100000) (a:Int):F3 (k+2) (AY i) a σ=some (.tuple #[.int .i64 (u7 m a),.int .i64 (if (getM m.fw a).isSome then 0 else 4)],σ):=by
 have e:=X8 (k+1) h.at_ hn1 a t.fw.length 0 (k+1) (by omega) (by omega)
 rw[List.drop_zero,h.sim.fw a,show ((0:Nat):Int)=0 from rfl] at e
 rw[Uv,Qe]
 simp only[FD k h,Option.bind_some,Ao,Bool.not_true,cond_false,e]
 unfold u7
 cases getM m.fw a with
 | none=>simp only[if_true]; rfl
 | some v=>simp only[reduceCtorEq,if_false,if_true,Gi]; rfl
end Go.Proofs.YtlaplcglpnlieaaGreat
end
