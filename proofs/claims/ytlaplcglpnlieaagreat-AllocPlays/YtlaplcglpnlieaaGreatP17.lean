/- The document's heap: lists of objects, gaps, lines; words.; The document's heap: whole blocks, what fits, gaps. -/
import Derived.Test.YtlaplcglpnlieaaGreatP16
set_option linter.unusedVariables false
set_option linter.unusedSimpArgs false
set_option linter.unusedSectionVars false
section
namespace Go.Proofs.YtlaplcglpnlieaaGreat
open Go Go.AX
noncomputable local instance qRT:Bb:=Az
local instance zi:Kn:=⟨true⟩
variable {σ:Aa} {m:HM} {t:RM} {i:RI}
theorem V1 (k:Nat) (a b c:Int) (σ:Aa):dd (GU (k+1) a b c σ) σ (.bool (valid a b c)):=by
 simp only[dd,bw,Y9,An,Ml,Nat.zero_add,List.getElem?_cons_zero,List.getElem?_cons_succ,Option.bind_some,Am,mg]
 by_cases hA:a<0∨a>15∨b<0∨b>200
 ·have h1:(bif bif bif decide (a<0) then true else decide (a>15) then true else decide (b<0) then true else decide (b>200))=true:=by
   simp[Bool.cond_eq_ite]; omega
  have h2:valid a b c=false:=by simp[valid]; omega
  rw[h1,h2]
  exact ⟨_,rfl⟩
 ·have h1:(bif bif bif decide (a<0) then true else decide (a>15) then true else decide (b<0) then true else decide (b>200))=false:=by
   simp[Bool.cond_eq_ite]; omega
  rw[h1]
  simp only[cond_false]
  by_cases h0:c=0
  ·subst h0
   have h2:valid a b 0=true:=by simp[valid]; omega
   rw[h2]
   exact ⟨_,rfl⟩
  have e0:(c == 0)=false:=by simpa using h0
  by_cases h3:c=3
  ·subst h3
   have h2:valid a b 3=true:=by simp[valid]; omega
   rw[h2]
   exact ⟨_,rfl⟩
  have e3:(c == 3)=false:=by simpa using h3
  simp only[e0,e3,cond_false,Option.bind_some,if_true,VK]
  by_cases h4:c=1
  ·subst h4
   have h2:valid a b 1=decide (a≥1):=by rw[valid,decide_eq_decide]; simp; omega
   rw[h2]
   simp only[BEq.rfl,cond_true,Ml,List.getElem?_cons_zero,Option.bind_some,Am]
   exact ⟨_,rfl⟩
  have e4:(c == 1)=false:=by simpa using h4
  by_cases h5:c=2
  ·subst h5
   have h2:valid a b 2=decide (a≥2):=by rw[valid,decide_eq_decide]; simp; omega
   rw[h2]
   simp only[e4,cond_false,BEq.rfl,cond_true,Ml,List.getElem?_cons_zero,Option.bind_some,Am]
   exact ⟨_,rfl⟩
  have e5:(c == 2)=false:=by simpa using h5
  have h2:valid a b c=false:=by simp[valid]; omega
  simp only[e4,e5,cond_false,h2]
  exact ⟨_,rfl⟩
theorem HG (k:Nat) (a b c:Int) (σ:Aa):dd (BG (k+2) a b c σ) σ (.int .i64 (words a b c)):=by
 unfold dd
 rw[bz,YA]
 simp only[An,Ml,Nat.zero_add,List.getElem?_cons_zero,List.getElem?_cons_succ,Option.bind_some,Am]
 rw[(V1 _ _ _ _ _).eq]
 simp only[Option.bind_some,Ao,Zp,List.getElem?_cons_zero,List.getElem?_cons_succ,Am]
 unfold words
 rcases Bool.eq_false_or_eq_true (valid a b c) with hv | hv
 rotate_left
 ·simp only[hv,Bool.not_false,cond_true,cond_false,List.append_assoc]
  exact ⟨_,rfl⟩
 ·simp only[hv,Bool.not_true,cond_true,cond_false,List.append_assoc]
  simp[valid] at hv
  simp only[show ((2:Int)=0)=False from by simp,if_false]
  refine ⟨_,congrArg some (Prod.ext (congrArg (Value.int .i64) ?_) rfl)⟩
  simp only[Ae]
  have e1:IntKind.i64.wrap (2+a)=2+a:=by rw[IntKind.wrap_i64]; omega
  have e2:IntKind.i64.wrap (2+a+b)=2+a+b:=by rw[IntKind.wrap_i64]; omega
  rw[e1,e2,Int.tmod_eq_emod_of_nonneg (by omega),IntKind.wrap_i64]
  omega
theorem Of {E:TypeId} {s by_:Nat} {z:Value} (hs:Ik P E=some s) (hb:bytesOf P E=some by_) (hz:Fj P E=some z) (hz1:IZ z=false) (hz2:z.cells.size=s) (hs0:0<s) (hb0:0<by_) (hb1:by_≤1000)
  (σ τ:Aa) (sl:EJ) (n:Nat) (row:List Value) (n' c:Nat) (row':List Value) (T:TypeId) (hn:n+n'≤1000000) (hn0:0<n') (hr:row'.length=n'*s) (hsl:BU E s (σ++τ) sl n row) (hbh:∀ a,sl.1=some a→σ.length≤a.block):
  ∃ s' τ',Be P E sl (some ⟨(σ++τ).length,0,none⟩,n',c) (σ++τ++[.cells row' T true])=some (s',σ++τ')∧BU E s (σ++τ') s' (n+n') (row++row')∧(∀ a,s'.1=some a→σ.length≤a.block):=by
 obtain ⟨s',σ',e,g,h⟩:=ak hs hb hz hz1 hz2 hs0 hb0 hb1 (σ++τ) sl n row n' c row' T hn hn0 hr hsl
 obtain ⟨⟨τ',rfl⟩,h2⟩:=g.behind hbh
 exact ⟨s',τ',e,h,h2⟩
theorem BU.ints {lo:Nat} {s:EJ} {l:List Int} (h:BU AP 1 σ s l.length (CN l)) (hl:∀ a,s.1=some a→lo≤a.block) (hne:l=[]→s=(none,0,0)):Dl lo σ s l:=by
 by_cases e:l=[]
 ·exact .inl ⟨e,hne e⟩
 ·rcases h with ⟨h1,_,_⟩ | ⟨b,rfl,_,_,hc⟩
  ·exact absurd (List.length_eq_zero_iff.1 h1) e
  ·exact .inr ⟨b,hl _ rfl,rfl,e,hc⟩
theorem Zl (σ τ:Aa) (s:EJ) (l:List Int) (x:Int) (hl:l.length≤900000) (hs:Dl σ.length (σ++τ) s l):
  ∃ s' τ',Be P AP s (some ⟨(σ++τ).length,0,none⟩,1,1) (σ++τ++[.cells [.int .i64 x] AP true])=some (s',σ++τ')∧Dl σ.length (σ++τ') s' (l++[x]):=by
 obtain ⟨s',τ',e,h1,h2⟩:=Of xz xu xB rfl rfl (by decide) (by decide) (by decide) σ τ s l.length (CN l) 1 1 [.int .i64 x] AP (by omega) (by decide) rfl hs.sl (fun a ha=>(hs.ge a ha).1)
 refine ⟨s',τ',e,BU.ints ?_ h2 (fun e=>by simp at e)⟩
 rw[ZV,List.length_append]
 exact h1
theorem RG.drop (h:RG σ i m t) {x:Nat} (hx:x<t.ob.length):∃ j,(D1 m)[x]?=some j∧x<(D1 m).length∧Start m j∧t.ob[x]?=some (BE m j):=by
 have hl:t.ob.length=(D1 m).length:=by rw[h.sim.ob]; simp[LW]
 have hx':x<(D1 m).length:=by omega
 refine ⟨(D1 m)[x],List.getElem?_eq_getElem hx',hx',E9.1 (List.getElem_mem hx'), ?_⟩
 rw[h.sim.ob]
 unfold LW
 rw[List.getElem?_map,List.getElem?_eq_getElem hx']; rfl
theorem RG.vF (h:RG σ i m t):t.ob.length=(D1 m).length:=by rw[h.sim.ob]; simp[LW]
structure At (σ:Aa) (i:RI) (m:HM) (t:RM) (x j b:Nat) (p:EJ × EJ):Prop where
 st:Start m j
 all:(D1 m)[x]?=some j
 xl:x<(D1 m).length
 os:i.os.1=some ⟨b,0,none⟩
 cell:σ[b]?=some (.cells (Hm t.ob i.om) Ac true)
 om:i.om[x]?=some p
 ld:vB σ b x (BE m j) p
 lt:j<2048
 dr:(D1 m).drop x=j::(D1 m).drop (x+1)
theorem RG.wG (h:RG σ i m t) {x:Nat} (hx:x<t.ob.length):∃ j b p,At σ i m t x j b p:=by
 obtain ⟨j,h1,h2,h3,h4⟩:=h.drop hx
 obtain ⟨b,e1,e2,L⟩:=h.at_.obj hx
 have hom:x<i.om.length:=by rw[h.at_.ol]; exact hx
 have eo:t.ob[x]=BE m j:=by rw[List.getElem?_eq_getElem hx] at h4; exact Option.some.inj h4
 have L:=L hom
 rw[eo] at L
 have:=h3.1
 have:=h.nt
 refine ⟨j,b,i.om[x],h3,h1,h2,e1,e2,List.getElem?_eq_getElem hom,L,by omega, ?_⟩
 rw[List.drop_eq_getElem_cons h2]
 rw[List.getElem?_eq_getElem h2] at h1
 rw[Option.some.inj h1]
theorem gj (k:Nat) (h:RG σ i m t):∀ (n x f:Nat) (τ:Aa) (s:EJ),x+n=t.ob.length→Dl σ.length (σ++τ) s (CK ((D1 m).take x))→n<f →
  ∃ τ' s',Gl (k+1) f (AY i) s (x:Int) (σ++τ)=some (.exit 0,[.slice s'.1 s'.2.1 s'.2.2],σ++τ')∧Dl σ.length (σ++τ') s' (CK (D1 m))
 | 0,x,0,τ,s,hx,hs,hf=>by omega
 | 0,x,f+1,τ,s,hx,hs,hf=>by
   have ha:=h.vF
   have hg:=h.app τ
   rw[OG,MA]
   have q:decide ((x:Int)<((t.ob.length:Nat):Int))=false:=decide_eq_false (by omega)
   rw[List.take_of_length_le (by omega)] at hs
   exact ⟨τ,s,by simp only[FD k hg,Option.bind_some,Ao,cond_true,Nat.zero_add,hg.at_.HA,q,cond_false],hs⟩
 | n+1,x,0,τ,s,hx,hs,hf=>by omega
 | n+1,x,f+1,τ,s,hx,hs,hf=>by
   have hol:=h.ol
   have hxl:x<t.ob.length:=by omega
   have hg:=h.app τ
   obtain ⟨j,b,p,A⟩:=hg.wG hxl
   obtain ⟨s1,τ1,e1,i1⟩:=Zl σ τ s _ ((2*j:Nat):Int) (by simp[CK]; omega) hs
   have e1':Be P AP (s.1,s.2.1,s.2.2) (some ⟨(σ++τ).length,0,none⟩,1,1) (σ++τ++[.cells [.int .i64 ((2*j:Nat):Int)] AP true])=_:=e1
   obtain ⟨τ2,s2,e2,i2⟩:=gj k h n (x+1) f τ1 s1 (by omega) (by
    have:(D1 m).take (x+1)=(D1 m).take x++[j]:=by rw[List.take_add_one,A.all]; rfl
    rw[this]
    simpa [CK] using i1) (by omega)
   refine ⟨τ2,s2, ?_,i2⟩
   rw[OG,MA]
   have q:decide ((x:Int)<((t.ob.length:Nat):Int))=true:=decide_eq_true (by omega)
   have qx:(0≤(x:Int)∧(x:Int)<((t.ob.length:Nat):Int))=True:=eq_true (by omega)
   have w1:Ae ((x:Int)+1)=((x+1:Nat):Int):=Ad (by unfold AV; omega)
   have l0:Ak .i64 (σ++τ) b (x*8)=some ((2*j:Nat):Int):=A.ld.l0
   simp only[FD k hg,Option.bind_some,Ao,cond_true,Nat.zero_add,Nat.add_zero,hg.at_.HA,q,qx,if_true,A.os,Int.toNat_natCast,l0,An,e1',w1]
   exact e2
theorem pK (k:Nat) (hk:5000≤k) (h:RG σ i m t):∃ τ s,GI (k+2) (AY i) σ=some (.slice s.1 s.2.1 s.2.2,σ++τ)∧Dl σ.length (σ++τ) s (CK (D1 m)):=by
 have hol:=h.ol
 obtain ⟨τ,s,e,hs⟩:=gj k h t.ob.length 0 (k+1) [] (none,0,0) (by omega) (.inl ⟨rfl,rfl⟩) (by omega)
 rw[List.append_nil,show ((0:Nat):Int)=0 from rfl] at e
 refine ⟨τ,s, ?_,hs⟩
 rw[Yq,Um]
 simp only[e,Option.bind_some,if_true,H5]
def uC (L:List Nat) (b:Int):List Nat:=L.filter fun j=>decide (((2*j/64:Nat):Int)=b)
theorem SE (k:Nat) (h:RG σ i m t) (bk:Int):∀ (n x f:Nat) (τ:Aa) (s:EJ),x+n=t.ob.length→Dl σ.length (σ++τ) s (CK (uC ((D1 m).take x) bk))→n<f →
  ∃ τ' s',E4 (k+1) f (AY i) bk s (x:Int) (σ++τ)=some (.exit 0,[.slice s'.1 s'.2.1 s'.2.2],σ++τ')∧Dl σ.length (σ++τ') s' (CK (uC (D1 m) bk))
 | 0,x,0,τ,s,hx,hs,hf=>by omega
 | 0,x,f+1,τ,s,hx,hs,hf=>by
   have ha:=h.vF
   have hg:=h.app τ
   rw[Ib,Hh]
   have q:decide ((x:Int)<((t.ob.length:Nat):Int))=false:=decide_eq_false (by omega)
   rw[List.take_of_length_le (by omega)] at hs
   exact ⟨τ,s,by simp only[FD k hg,Option.bind_some,Ao,cond_true,Nat.zero_add,hg.at_.HA,q,cond_false],hs⟩
 | n+1,x,0,τ,s,hx,hs,hf=>by omega
 | n+1,x,f+1,τ,s,hx,hs,hf=>by
   have hol:=h.ol
   have hxl:x<t.ob.length:=by omega
   have hg:=h.app τ
   obtain ⟨j,b,p,A⟩:=hg.wG hxl
   have hjl:=A.lt
   have q:decide ((x:Int)<((t.ob.length:Nat):Int))=true:=decide_eq_true (by omega)
   have qx:(0≤(x:Int)∧(x:Int)<((t.ob.length:Nat):Int))=True:=eq_true (by omega)
   have w1:Ae ((x:Int)+1)=((x+1:Nat):Int):=Ad (by unfold AV; omega)
   have w2:Ae ((((2*j:Nat):Int)).tdiv 64)=((2*j/64:Nat):Int):=by rw[show (((2*j:Nat):Int)).tdiv 64=((2*j/64:Nat):Int) from rfl]; exact Ad (by unfold AV; omega)
   have l0:Ak .i64 (σ++τ) b (x*8)=some ((2*j:Nat):Int):=A.ld.l0
   have htk:uC ((D1 m).take (x+1)) bk=uC ((D1 m).take x) bk++(if ((2*j/64:Nat):Int)=bk then [j] else []):=by
    rw[List.take_add_one,A.all]
    unfold uC
    rw[List.filter_append]
    congr 1
    show List.filter _ [j]=_
    by_cases e:((2*j/64:Nat):Int)=bk
    ·rw[if_pos e,List.filter_cons,if_pos (decide_eq_true e),List.filter_nil]
    ·rw[if_neg e,List.filter_cons,if_neg (by rw[decide_eq_true_eq]; exact e),List.filter_nil]
   by_cases e:((2*j/64:Nat):Int)=bk
   ·obtain ⟨s1,τ1,e1,i1⟩:=Zl σ τ s _ ((2*j:Nat):Int) (by
     have:=List.length_filter_le (fun j=>decide (((2*j/64:Nat):Int)=bk)) ((D1 m).take x)
     simp[CK,uC] at this ⊢; omega) hs
    have e1':Be P AP (s.1,s.2.1,s.2.2) (some ⟨(σ++τ).length,0,none⟩,1,1) (σ++τ++[.cells [.int .i64 ((2*j:Nat):Int)] AP true])=_:=e1
    obtain ⟨τ2,s2,e2,i2⟩:=SE k h bk n (x+1) f τ1 s1 (by omega) (by
     rw[htk,if_pos e]
     simpa [CK] using i1) (by omega)
    refine ⟨τ2,s2, ?_,i2⟩
    rw[Ib,Hh]
    simp only[FD k hg,Option.bind_some,Ao,cond_true,Nat.zero_add,Nat.add_zero,hg.at_.HA,q,qx,if_true,A.os,Int.toNat_natCast,l0,show ((64:Int)=0)=False from by decide,if_false,w2,beq_iff_eq.2 e,An,e1',H5,w1]
    exact e2
   ·obtain ⟨τ2,s2,e2,i2⟩:=SE k h bk n (x+1) f τ s (by omega) (by
     rw[htk,if_neg e,List.append_nil]
     exact hs) (by omega)
    refine ⟨τ2,s2, ?_,i2⟩
    rw[Ib,Hh]
    simp only[FD k hg,Option.bind_some,Ao,cond_true,Nat.zero_add,Nat.add_zero,hg.at_.HA,q,qx,if_true,A.os,Int.toNat_natCast,l0,show ((64:Int)=0)=False from by decide,if_false,w2,beq_eq_false_iff_ne.2 e,cond_false,H5,w1]
    exact e2
def UA (m:HM) (b:Int):List Nat:=if 0≤b∧b<(m.bls.length:Int) then Cb m (32*b.toNat) 32 else []
theorem vR (m:HM) (b:Int):uC (D1 m) b=UA m b:=by
 unfold UA
 split
 ·rename_i hb
  refine Zz ((Qd m).filter _) ((List.pairwise_lt_range' (step:=1) (by decide)).filter _) fun a=>?_
  unfold uC
  rw[List.mem_filter,E9,decide_eq_true_eq]
  show _↔a ∈ Cb m (32*b.toNat) 32
  rw[KD]
  constructor
  ·rintro ⟨h1,h2⟩; exact ⟨by omega,by omega,h1.2⟩
  ·rintro ⟨h1,h2,h3⟩; exact ⟨⟨by omega,h3⟩,by omega⟩
 ·rename_i hb
  unfold uC
  rw[List.filter_eq_nil_iff]
  intro j hj
  have:=(E9.1 hj).1
  rw[decide_eq_true_eq]
  omega
theorem XA (k:Nat) (hk:5000≤k) (h:RG σ i m t) (b:Int):∃ τ s,Da (k+2) (AY i) b σ=some (.slice s.1 s.2.1 s.2.2,σ++τ)∧Dl σ.length (σ++τ) s (CK (UA m b)):=by
 have hol:=h.ol
 obtain ⟨τ,s,e,hs⟩:=SE k h b t.ob.length 0 (k+1) [] (none,0,0) (by omega) (.inl ⟨rfl,rfl⟩) (by omega)
 rw[List.append_nil,show ((0:Nat):Int)=0 from rfl] at e
 rw[vR] at hs
 refine ⟨τ,s, ?_,hs⟩
 rw[Uw,Qf]
 simp only[e,Option.bind_some,if_true,H5]
theorem cP (k:Nat) (h:RG σ i m t):∀ (n x f acc:Nat) (τ:Aa),x+n=t.ob.length→acc≤218*x→n<f →
  ∃ τ',F4 (k+2) f (AY i) (acc:Int) (x:Int) (σ++τ)=some (.exit 0,[.int .i64 ((acc+(((D1 m).drop x).map fun j=>sz m j).sum:Nat):Int)],σ++τ')
 | 0,x,0,acc,τ,hx,ha,hf=>by omega
 | 0,x,f+1,acc,τ,hx,ha,hf=>by
   have hal:=h.vF
   have hg:=h.app τ
   rw[NY,LB,List.drop_eq_nil_of_le (by omega)]
   have q:decide ((x:Int)<((t.ob.length:Nat):Int))=false:=decide_eq_false (by omega)
   exact ⟨τ,by simp only[FD (k+1) hg,Option.bind_some,Ao,cond_true,Nat.zero_add,hg.at_.HA,q,cond_false,List.map_nil,List.sum_nil,Nat.add_zero]⟩
 | n+1,x,0,acc,τ,hx,ha,hf=>by omega
 | n+1,x,f+1,acc,τ,hx,ha,hf=>by
   have hol:=h.ol
   have hxl:x<t.ob.length:=by omega
   have hg:=h.app τ
   obtain ⟨j,b,p,A⟩:=hg.wG hxl
   have hz:=h.inv.size A.st
   obtain ⟨τ1,e1⟩:=HG k (AQ m j) (BB m j) (EG m j) (σ++τ)
   rw[(XL h.inv A.st).2.2.2.2.2.2.2,List.append_assoc] at e1
   obtain ⟨τ2,e2⟩:=cP k h n (x+1) f (acc+sz m j) (τ++τ1) (by omega) (by omega) (by omega)
   refine ⟨τ2, ?_⟩
   rw[A.dr,List.map_cons,List.sum_cons,← Nat.add_assoc,← e2,NY,LB]
   have q:decide ((x:Int)<((t.ob.length:Nat):Int))=true:=decide_eq_true (by omega)
   have qx:(0≤(x:Int)∧(x:Int)<((t.ob.length:Nat):Int))=True:=eq_true (by omega)
   have w1:Ae ((x:Int)+1)=((x+1:Nat):Int):=Ad (by unfold AV; omega)
   have w2:Ae ((acc:Int)+(sz m j:Int))=((acc+sz m j:Nat):Int):=by rw[Ad (by unfold AV; omega)]; omega
   have l2:Ak .i64 (σ++τ) b (x*8+2)=some (AQ m j):=A.ld.l2
   have l3:Ak .i64 (σ++τ) b (x*8+3)=some (BB m j):=A.ld.l3
   have l4:Ak .i64 (σ++τ) b (x*8+4)=some (EG m j):=A.ld.l4
   simp only[FD (k+1) hg,Option.bind_some,Ao,cond_true,Nat.zero_add,Nat.add_assoc,Nat.reduceAdd,hg.at_.HA,q,qx,if_true,A.os,Int.toNat_natCast,l2,l3,l4,e1,Am,w1,w2]
theorem tw (k:Nat) (hk:5000≤k) (h:RG σ i m t):∃ τ,IQ (k+3) (AY i) σ=some (.int .i64 (vz m:Int),σ++τ):=by
 have hol:=h.ol
 obtain ⟨τ,e⟩:=cP k h t.ob.length 0 (k+2) 0 [] (by omega) (by omega) (by omega)
 rw[List.append_nil,show ((0:Nat):Int)=0 from rfl,List.drop_zero,Nat.zero_add] at e
 refine ⟨τ, ?_⟩
 rw[Xf,To]
 simp only[e,Option.bind_some,if_true,DQ]
 rfl
theorem X7 (k:Nat) (h:RG σ i m t) (a:Int):∀ (n x f:Nat) (τ:Aa),x+n=t.ob.length→n<f →
  ∃ τ',F2 (k+2) f (AY i) a (x:Int) (σ++τ)=some (match VW (t.ob.drop x) a with | some o=>(.ret,[.int .i64 o.addr,.int .i64 0],σ++τ') | none=>(.exit 0,[],σ++τ'))
 | 0,x,0,τ,hx,hf=>by omega
 | 0,x,f+1,τ,hx,hf=>by
   have hg:=h.app τ
   rw[NW,L9,List.drop_eq_nil_of_le (by omega)]
   have q:decide ((x:Int)<((t.ob.length:Nat):Int))=false:=decide_eq_false (by omega)
   exact ⟨τ,by simp only[Option.bind_some,Nat.zero_add,hg.at_.HA,q,cond_false,VW]⟩
 | n+1,x,0,τ,hx,hf=>by omega
 | n+1,x,f+1,τ,hx,hf=>by
   have hol:=h.ol
   have hxl:x<t.ob.length:=by omega
   have hg:=h.app τ
   obtain ⟨j,b,p,A⟩:=hg.wG hxl
   have hz:=h.inv.size A.st
   have hjl:=A.lt
   have hw:=gw h.inv A.st
   obtain ⟨j',_,_,_,ho⟩:=h.drop hxl
   have hoj:t.ob[x]=BE m j:=by
    obtain ⟨j2,g1,_,_,g4⟩:=h.drop hxl
    rw[A.all] at g1; cases g1
    rw[List.getElem?_eq_getElem hxl] at g4; exact Option.some.inj g4
   obtain ⟨τ1,e1⟩:=HG k (AQ m j) (BB m j) (EG m j) (σ++τ)
   rw[(XL h.inv A.st).2.2.2.2.2.2.2,List.append_assoc] at e1
   have hg1:=h.app (τ++τ1)
   rw[List.drop_eq_getElem_cons hxl,hoj,VW,hw,JY]
   have q:decide ((x:Int)<((t.ob.length:Nat):Int))=true:=decide_eq_true (by omega)
   have qx:(0≤(x:Int)∧(x:Int)<((t.ob.length:Nat):Int))=True:=eq_true (by omega)
   have w1:Ae ((x:Int)+1)=((x+1:Nat):Int):=Ad (by unfold AV; omega)
   have w2:Ae (((2*j:Nat):Int)+(sz m j:Int))=((2*j:Nat):Int)+(sz m j:Int):=Ad (by unfold AV; omega)
   have l0:Ak .i64 (σ++τ) b (x*8)=some ((2*j:Nat):Int):=A.ld.l0
   have l2:Ak .i64 (σ++τ) b (x*8+2)=some (AQ m j):=A.ld.l2
   have l3:Ak .i64 (σ++τ) b (x*8+3)=some (BB m j):=A.ld.l3
   have l4:Ak .i64 (σ++τ) b (x*8+4)=some (EG m j):=A.ld.l4
   rw[NW,L9]
   by_cases c1:((2*j:Nat):Int)≤a
   ·by_cases c2:a<((2*j:Nat):Int)+(sz m j:Int)
    ·obtain ⟨j3,b3,p3,A3⟩:=hg1.wG hxl
     have:j3=j:=by have:=A3.all; rw[A.all] at this; exact (Option.some.inj this).symm
     subst this
     have l0':Ak .i64 (σ++(τ++τ1)) b3 (x*8)=some ((2*j3:Nat):Int):=A3.ld.l0
     have:b3=b:=by have:=A3.os; rw[A.os] at this; cases this; rfl
     subst this
     refine ⟨τ++τ1, ?_⟩
     rw[if_pos ⟨c1,c2⟩]
     simp only[Option.bind_some,Nat.zero_add,Nat.add_zero,Nat.add_assoc,Nat.reduceAdd,hg.at_.HA,q,cond_true,qx,if_true,A.os,Int.toNat_natCast,l0,decide_eq_true (show a≥((2*j3:Nat):Int) from c1),l2,l3,l4,e1,Am,w2,decide_eq_true c2,hg1.at_.HA,l0']
     rfl
    ·obtain ⟨τ2,e2⟩:=X7 k h a n (x+1) f (τ++τ1) (by omega) (by omega)
     refine ⟨τ2, ?_⟩
     rw[if_neg (fun h=>c2 h.2),← e2]
     simp only[Option.bind_some,Nat.zero_add,Nat.add_zero,Nat.add_assoc,Nat.reduceAdd,hg.at_.HA,q,cond_true,qx,if_true,A.os,Int.toNat_natCast,l0,decide_eq_true (show a≥((2*j:Nat):Int) from c1),l2,l3,l4,e1,Am,w2,decide_eq_false c2,cond_false,w1]
   ·obtain ⟨τ2,e2⟩:=X7 k h a n (x+1) f τ (by omega) (by omega)
    refine ⟨τ2, ?_⟩
    rw[if_neg (fun h=>c1 h.1),← e2]
    simp only[Option.bind_some,Nat.zero_add,Nat.add_zero,hg.at_.HA,q,cond_true,qx,if_true,A.os,Int.toNat_natCast,l0,decide_eq_false (show ¬ a≥((2*j:Nat):Int) from c1),cond_false,w1]
theorem gm (k:Nat) (hk:5000≤k) (h:RG σ i m t) (a:Int):∃ τ,D3 (k+3) (AY i) a σ =
  some (match Lq m a with | some j=>.tuple #[.int .i64 ((2*j:Nat):Int),.int .i64 0] | none=>.tuple #[.int .i64 0,.int .i64 4],σ++τ):=by
 have hol:=h.ol
 obtain ⟨τ,e⟩:=X7 k h a t.ob.length 0 (k+2) [] (by omega) (by omega)
 rw[List.append_nil,show ((0:Nat):Int)=0 from rfl,List.drop_zero,h.sim.find h.inv] at e
 refine ⟨τ, ?_⟩
 rw[Xc,Tl]
 simp only[FD (k+1) h,Option.bind_some,Ao,Bool.not_true,cond_false,e]
 cases Lq m a with
 | none=>simp only[Option.map_none,if_true]
 | some j=>simp only[Option.map_some,reduceCtorEq,if_false,if_true,Gi,JY]
theorem js (k:Nat) (h:RG σ i m t) (id:Int):∀ (n x f:Nat),x+n=t.ob.length→n<f→GJ k f (AY i) id (x:Int) σ=some (match uK (t.ob.drop x) id with | some a=>(.ret,[.int .i64 a,.int .i64 0],σ) | none=>(.exit 0,[],σ))
 | 0,x,0,hx,hf=>by omega
 | 0,x,f+1,hx,hf=>by
   rw[Pg,Nv,List.drop_eq_nil_of_le (by omega)]
   have q:decide ((x:Int)<((t.ob.length:Nat):Int))=false:=decide_eq_false (by omega)
   simp only[Option.bind_some,Nat.zero_add,h.at_.HA,q,cond_false,uK]
 | n+1,x,0,hx,hf=>by omega
 | n+1,x,f+1,hx,hf=>by
   have hol:=h.ol
   have hxl:x<t.ob.length:=by omega
   have ih:=js k h id n (x+1) f (by omega) (by omega)
   obtain ⟨b,eb,_,L⟩:=h.at_.obj hxl
   have L:=L (by rw[h.at_.ol]; exact hxl)
   rw[List.drop_eq_getElem_cons hxl,Pg,Nv,uK]
   have q:decide ((x:Int)<((t.ob.length:Nat):Int))=true:=decide_eq_true (by omega)
   have qx:(0≤(x:Int)∧(x:Int)<((t.ob.length:Nat):Int))=True:=eq_true (by omega)
   have w1:Ae ((x:Int)+1)=((x+1:Nat):Int):=Ad (by unfold AV; omega)
   simp only[Option.bind_some,Nat.zero_add,Nat.add_zero,h.at_.HA,q,cond_true,qx,if_true,eb,Int.toNat_natCast,L.l0,L.l1,w1]
   by_cases e:t.ob[x].id=id
   ·rw[if_pos e,beq_iff_eq.2 e]; simp only[cond_true]
   ·rw[if_neg e,beq_eq_false_iff_ne.2 e]
    simp only[cond_false,ih]
theorem wj (k:Nat) (hk:5000≤k) (h:RG σ i m t) (id:Int):Hy (k+2) (AY i) id σ=some (match getM m.pl id with | some a=>.tuple #[.int .i64 a,.int .i64 0] | none=>.tuple #[.int .i64 0,.int .i64 4],σ):=by
 have hol:=h.ol
 have e:=js (k+1) h id t.ob.length 0 (k+1) (by omega) (by omega)
 rw[List.drop_zero,h.sim.at h.inv,show ((0:Nat):Int)=0 from rfl] at e
 rw[Ze,VQ]
 simp only[FD k h,Option.bind_some,Ao,Bool.not_true,cond_false,e]
 cases getM m.pl id with
 | none=>simp only[if_true]
 | some a=>simp only[reduceCtorEq,if_false,if_true,Gi]
end Go.Proofs.YtlaplcglpnlieaaGreat
end
section
namespace Go.Proofs.YtlaplcglpnlieaaGreat
open Go Go.AX
noncomputable local instance qRU:Bb:=Az
local instance zj:Kn:=⟨true⟩
variable {σ:Aa} {m:HM} {t:RM} {i:RI}
theorem ay (h:RG σ i m t) {b:Nat} (hb:b<m.bls.length):∃ q,i.bs.1=some ⟨q,0,none⟩∧Ak .i64 σ q (b*2)=some (m.bls.getD b (0,0)).1∧Ak .i64 σ q (b*2+1)=some (m.bls.getD b (0,0)).2∧σ[q]?=some (.cells (Cv m.bls) Aq true):=by
 obtain ⟨q,e,l0,l1,hc⟩:=Vy h.at_.bl (x:=b) (by rw[h.bn]; exact hb)
 rw[h.sim.bl] at l0 l1 hc
 exact ⟨q,e,l0,l1,hc⟩
theorem aw (k:Nat) (h:RG σ i m t) {b:Nat} (hb:b<m.bls.length) (hst:(m.bls.getD b (0,0)).1=2):∀ (f n:Nat),m.bls.length≤b+n+f→n≤m.bls.length→Ep k (f+1) (AY i) (b:Int) (n:Int) σ=some (.exit 0,[.int .i64 (Ii m b f n:Int)],σ)
 | 0,n,h1,h2=>by
   have hnt:=h.nt
   rw[Na,Ld,Ii]
   have w:Ae ((b:Int)+(n:Int))=((b+n:Nat):Int):=by rw[Ad (by unfold AV; omega)]; omega
   have q:decide (((b+n:Nat):Int)<((m.bls.length:Nat):Int))=false:=decide_eq_false (by omega)
   simp only[Option.bind_some,Nat.zero_add,Nat.add_zero,h.at_.SX,h.bn,w,q,cond_false]
 | f+1,n,h1,h2=>by
   have hnt:=h.nt
   rw[Na,Ld,Ii]
   have w:Ae ((b:Int)+(n:Int))=((b+n:Nat):Int):=by rw[Ad (by unfold AV; omega)]; omega
   have w1:Ae ((n:Int)+1)=((n+1:Nat):Int):=Ad (by unfold AV; omega)
   simp only[Option.bind_some,Nat.zero_add,Nat.add_zero,h.at_.SX,h.bn,w,hst,true_and]
   by_cases hc:b+n<m.bls.length
   ·obtain ⟨q,e,l0,_,_⟩:=ay h hc
    have q1:decide (((b+n:Nat):Int)<((m.bls.length:Nat):Int))=true:=decide_eq_true (by omega)
    have qx:(0≤((b+n:Nat):Int)∧((b+n:Nat):Int)<((m.bls.length:Nat):Int))=True:=eq_true (by omega)
    simp only[q1,cond_true,qx,if_true,e,Option.bind_some,Int.toNat_natCast,Nat.zero_add,l0]
    by_cases h3:(m.bls.getD (b+n) (0,0)).1=3
    ·rw[if_pos ⟨hc,h3⟩,beq_iff_eq.2 h3]
     simp only[cond_true,w1]
     exact aw k h hb hst f (n+1) (by omega) (by omega)
    ·rw[if_neg (fun h=>h3 h.2),beq_eq_false_iff_ne.2 h3]
     simp only[cond_false]
   ·have q1:decide (((b+n:Nat):Int)<((m.bls.length:Nat):Int))=false:=decide_eq_false (by omega)
    have qn:(b+n<m.bls.length∧(m.bls.getD (b+n) (0,0)).1=3)=False:=eq_false (fun h=>hc h.1)
    simp only[q1,cond_false,Option.bind_some,qn,if_false]
def TX (m:HM) (b:Nat):Nat:=if (m.bls.getD b (0,0)).1=1 then 1 else if (m.bls.getD b (0,0)).1=2 then GS m b else 0
theorem bR (k:Nat) (hk:100≤k) (h:RG σ i m t) {b:Nat} (hb:b<m.bls.length):Co (k+1) (AY i) (b:Int) σ=some (.int .i64 (TX m b:Int),σ):=by
 have hnt:=h.nt
 obtain ⟨q,e,l0,_,_⟩:=ay h hb
 have qx:(0≤(b:Int)∧(b:Int)<((m.bls.length:Nat):Int))=True:=eq_true (by omega)
 rw[Wp,RX]
 simp only[Option.bind_some,Nat.zero_add,Nat.add_zero,h.at_.SX,h.bn,qx,if_true,e,Int.toNat_natCast,l0]
 unfold TX
 by_cases h1:(m.bls.getD b (0,0)).1=1
 ·rw[if_pos h1,beq_iff_eq.2 h1]; rfl
 rw[if_neg h1,beq_eq_false_iff_ne.2 h1]
 by_cases h2:(m.bls.getD b (0,0)).1=2
 ·rw[if_pos h2]
  have e1:=aw k h hb h2 (k-1) 1 (by omega) (by omega)
  rw[show k-1+1=k from by omega] at e1
  have e1':Ep k k (AY i) (b:Int) 1 σ=_:=e1
  simp only[h2,bne_self_eq_false,cond_false,e1',Option.bind_some,if_true,DQ]
  rw[Z1 m b (k-1) m.bls.length 1 (by omega) (by omega)]; rfl
 ·rw[if_neg h2]
  simp only[cond_false,bne_iff_ne.2 h2,cond_true]
  rfl
theorem dc (r d k:Int):0≤words r d k∧words r d k≤218:=VL r d k
theorem my (k:Nat) (r d c:Int) (σ:Aa):∃ τ,IW (k+3) r d c σ=some (.int .i64 ((words r d c+63).tdiv 64),σ++τ):=by
 obtain ⟨τ,e⟩:=HG k r d c (σ++[AJ.cells [.int .i64 r,.int .i64 d,.int .i64 c] Ag true])
 have hw:=dc r d c
 refine ⟨[AJ.cells [.int .i64 r,.int .i64 d,.int .i64 c] Ag true]++τ, ?_⟩
 rw[dp,ZE]
 simp only[An,Ml,Nat.zero_add,Nat.reduceAdd,List.getElem?_cons_zero,List.getElem?_cons_succ,Option.bind_some,Am,e,show ((64:Int)=0)=False from by decide,if_false]
 have w1:Ae (words r d c+64)=words r d c+64:=Ad (by unfold AV; omega)
 have w2:Ae (words r d c+64-1)=words r d c+63:=by rw[Ad (by unfold AV; omega)]; omega
 obtain ⟨n,hn⟩:∃ n:Nat,words r d c+63=(n:Int):=⟨(words r d c+63).toNat,by omega⟩
 have w3:Ae ((words r d c+63).tdiv 64)=(words r d c+63).tdiv 64:=by
  rw[hn,show ((n:Int)).tdiv 64=((n/64:Nat):Int) from rfl]; exact Ad (by unfold AV; omega)
 rw[w1,w2,w3,List.append_assoc]
theorem bQ (k:Nat) (r d c:Int) (σ:Aa):∃ τ,Ff (k+3) r d c σ=some (.bool (decide (words r d c>32)),σ++τ):=by
 obtain ⟨τ,e⟩:=HG k r d c (σ++[AJ.cells [.int .i64 r,.int .i64 d,.int .i64 c] Ag true])
 refine ⟨[AJ.cells [.int .i64 r,.int .i64 d,.int .i64 c] Ag true]++τ, ?_⟩
 rw[bu,Y8]
 simp only[An,Ml,Nat.zero_add,Nat.reduceAdd,List.getElem?_cons_zero,List.getElem?_cons_succ,Option.bind_some,Am,e]
 rw[List.append_assoc]
theorem Rp {q:Nat} {x y z:Int} {T:TypeId} (h:σ[q]?=some (.cells [.int .i64 x,.int .i64 y,.int .i64 z] T true)):Ak .i64 σ q 0=some x∧Ak .i64 σ q 1=some y∧Ak .i64 σ q 2=some z:=by
 refine ⟨?_, ?_, ?_⟩ <;> simp[Ak,Gr,h,Bu]
theorem T7 (k:Nat) (h:RG σ i m t) (a but:Int) (ha:0≤a∧a<4096) {q:Nat} {r d c:Int} (hq:σ[q]?=some (.cells [.int .i64 r,.int .i64 d,.int .i64 c] Ag true)):∀ (n x f:Nat) (τ:Aa),x+n=t.ob.length→n<f →
  ∃ τ',DA (k+2) f (AY i) a but q (x:Int) (σ++τ)=some (if gn (t.ob.drop x) a (words r d c) but then (.ret,[.int .i64 8],σ++τ') else (.exit 0,[],σ++τ'))
 | 0,x,0,τ,hx,hf=>by omega
 | 0,x,f+1,τ,hx,hf=>by
   have hg:=h.app τ
   rw[NZ,LC,List.drop_eq_nil_of_le (by omega)]
   have q:decide ((x:Int)<((t.ob.length:Nat):Int))=false:=decide_eq_false (by omega)
   exact ⟨τ,by simp only[Option.bind_some,Nat.zero_add,hg.at_.HA,q,cond_false,gn,List.any_nil,Bool.false_eq_true,if_false]⟩
 | n+1,x,0,τ,hx,hf=>by omega
 | n+1,x,f+1,τ,hx,hf=>by
   have hol:=h.ol
   have hxl:x<t.ob.length:=by omega
   have hg:=h.app τ
   obtain ⟨j,b,p,A⟩:=hg.wG hxl
   have hz:=h.inv.size A.st
   have hjl:=A.lt
   have hw:=gw h.inv A.st
   have hwr:=dc r d c
   have hoj:t.ob[x]=BE m j:=by
    obtain ⟨j2,g1,_,_,g4⟩:=h.drop hxl
    rw[A.all] at g1; cases g1
    rw[List.getElem?_eq_getElem hxl] at g4; exact Option.some.inj g4
   have hov:gn (t.ob.drop x) a (words r d c) but=(decide ((BE m j).id≠but∧((2*j:Nat):Int)<a+words r d c∧a<((2*j:Nat):Int)+(sz m j:Int)) || gn (t.ob.drop (x+1)) a (words r d c) but):=by
    rw[List.drop_eq_getElem_cons hxl,hoj]
    unfold gn
    rw[List.any_cons,hw,JY]
   obtain ⟨B,hB⟩:∃ B,AJ.cells (Bt (BE m j) p) Ac true=B:=⟨_,rfl⟩
   have st:Ip (σ++τ++[AJ.cells [.int .i64 0,.int .i64 0,.int .i64 0,.int .i64 0,.int .i64 0,.slice none 0 0,.slice none 0 0,.bool false] Ac true]) (σ++τ).length 0 [.int .i64 (BE m j).addr,.int .i64 (BE m j).id,.int .i64 (BE m j).r,.int .i64 (BE m j).d,.int .i64 (BE m j).k,.slice p.1.1 p.1.2.1 p.1.2.2,.slice p.2.1 p.2.2.1 p.2.2.2,.bool (BE m j).pin]=some (σ++τ++[B]):=by
    rw[XI,← hB]; rfl
   have lb:∀ (τ':Aa) (o:Nat),Ak .i64 (σ++τ++[B]++τ') (σ++τ).length o=((Bt (BE m j) p)[o]?).bind (Bu .i64):=fun τ' o=>by rw[← hB]; exact Zp _ _ _ _ _ _ _
   have lb0:∀ (o:Nat),Ak .i64 (σ++τ++[B]) (σ++τ).length o=((Bt (BE m j) p)[o]?).bind (Bu .i64):=fun o=>by have:=lb [] o; rwa [List.append_nil] at this
   have hq':(σ++τ++[B])[q]?=some (.cells [.int .i64 r,.int .i64 d,.int .i64 c] Ag true):=by
    rw[List.append_assoc,List.getElem?_append_left (Af hq)]; exact hq
   obtain ⟨b0,b1,b2⟩:=Rp hq'
   obtain ⟨τ1,e1⟩:=HG k r d c (σ++τ++[B])
   obtain ⟨τ2,e2⟩:=HG k (AQ m j) (BB m j) (EG m j) (σ++τ++[B]++τ1)
   rw[(XL h.inv A.st).2.2.2.2.2.2.2] at e2
   have q0:decide ((x:Int)<((t.ob.length:Nat):Int))=true:=decide_eq_true (by omega)
   have qx:(0≤(x:Int)∧(x:Int)<((t.ob.length:Nat):Int))=True:=eq_true (by omega)
   have w1:Ae ((x:Int)+1)=((x+1:Nat):Int):=Ad (by unfold AV; omega)
   have w2:Ae (a+words r d c)=a+words r d c:=Ad (by unfold AV; omega)
   have w3:Ae (((2*j:Nat):Int)+(sz m j:Int))=((2*j:Nat):Int)+(sz m j:Int):=Ad (by unfold AV; omega)
   have c0:((Bt (BE m j) p)[0]?).bind (Bu .i64)=some ((2*j:Nat):Int):=rfl
   have c1:((Bt (BE m j) p)[1]?).bind (Bu .i64)=some (BE m j).id:=rfl
   have c2:((Bt (BE m j) p)[2]?).bind (Bu .i64)=some (AQ m j):=rfl
   have c3:((Bt (BE m j) p)[3]?).bind (Bu .i64)=some (BB m j):=rfl
   have c4:((Bt (BE m j) p)[4]?).bind (Bu .i64)=some (EG m j):=rfl
   rw[hov,NZ,LC]
   simp only[Option.bind_some,Nat.zero_add,Nat.add_zero,Nat.add_assoc,Nat.reduceAdd,hg.at_.HA,q0,cond_true,qx,if_true,A.os,Int.toNat_natCast,A.ld.l0,A.ld.l1,A.ld.l2,A.ld.l3,A.ld.l4,A.ld.l5,A.ld.l6,A.ld.l7,An,st,lb0,c1]
   by_cases d1:(BE m j).id=but
   ·obtain ⟨τ3,e3⟩:=T7 k h a but ha hq n (x+1) f (τ++[B]) (by omega) (by omega)
    refine ⟨τ3, ?_⟩
    have:((BE m j).id != but)=false:=by rw[d1]; exact bne_self_eq_false _
    rw[decide_eq_false (fun h=>h.1 d1),Bool.false_or]
    simp only[← List.append_assoc] at e3
    simp only[this,cond_false,Option.bind_some,w1]
    exact e3
   ·have hb1:((BE m j).id != but)=true:=bne_iff_ne.2 d1
    by_cases d2:((2*j:Nat):Int)<a+words r d c
    ·by_cases d3:a<((2*j:Nat):Int)+(sz m j:Int)
     ·refine ⟨τ++[B]++τ1++τ2, ?_⟩
      rw[decide_eq_true ⟨d1,d2,d3⟩]
      simp only[hb1,cond_true,lb0,c0,Option.bind_some,b0,b1,b2,e1,Am,w2,decide_eq_true d2,lb,c2,c3,c4,e2,w3,decide_eq_true d3,Bool.true_or,if_true]
      simp only[← List.append_assoc]
     ·obtain ⟨τ3,e3⟩:=T7 k h a but ha hq n (x+1) f (τ++[B]++τ1++τ2) (by omega) (by omega)
      refine ⟨τ3, ?_⟩
      rw[decide_eq_false (fun h=>d3 h.2.2),Bool.false_or]
      simp only[← List.append_assoc] at e3
      simp only[hb1,cond_true,lb0,c0,Option.bind_some,b0,b1,b2,e1,Am,w2,decide_eq_true d2,lb,c2,c3,c4,e2,w3,decide_eq_false d3,cond_false,w1]
      exact e3
    ·obtain ⟨τ3,e3⟩:=T7 k h a but ha hq n (x+1) f (τ++[B]++τ1) (by omega) (by omega)
     refine ⟨τ3, ?_⟩
     rw[decide_eq_false (fun h=>d2 h.2.1),Bool.false_or]
     simp only[← List.append_assoc] at e3
     simp only[hb1,cond_true,lb0,c0,Option.bind_some,b0,b1,b2,e1,Am,w2,decide_eq_false d2,cond_false,w1]
     exact e3
theorem Zh {hi:Nat} {but:Int}:∀ {f x:Nat},Ol m hi but f x=false → ∃ y o,x≤y∧y<hi∧Lq m (y:Int)=some o∧((2*o:Nat):Int)≠but
 | 0,x,h=>by cases h
 | f+1,x,h=>by
   rw[Ol] at h
   split at h
   ·rename_i hx
    split at h
    ·rename_i o ho
     split at h
     ·obtain ⟨y,o',h1,h2⟩:=Zh h
      exact ⟨y,o',by omega,h2⟩
     ·rename_i hne
      exact ⟨x,o,Nat.le_refl _,hx,ho,hne⟩
    ·obtain ⟨y,o',h1,h2⟩:=Zh h
     exact ⟨y,o',by omega,h2⟩
   ·cases h
theorem tv (hI:Inv m) {a w:Nat} {but bid:Int} (ha:a % 2=0) (hw:w % 2=0) (hw0:2≤w) (hwl:w≤218) (hb:∀ o,Start m o→(((2*o:Nat):Int)=but↔m.wds.getD (2*o) 0=bid)):gn (LW m) (a:Int) (w:Int) bid = !Ol m (a+w) but 200 a:=by
 rw[Bool.eq_iff_iff,Bool.not_eq_true']
 unfold gn LW
 rw[List.any_eq_true]
 constructor
 ·rintro ⟨o,ho,hd⟩
  obtain ⟨j,hj,rfl⟩:=List.mem_map.1 ho
  have hs:=E9.1 hj
  rw[decide_eq_true_eq,gw hI hs,JY] at hd
  have hz:=hI.size hs
  cases hf:Ol m (a+w) but 200 a with
  | false=>rfl
  | true=>
    have hfit:=hI.fit j hs
    by_cases hc:a≤2*j
    ·have:=XQ hf (by omega) ((2*j-a)/2) (by omega) j (by
      rw[show a+2*((2*j-a)/2)=2*j from by omega]
      unfold Lq
      rw[if_pos (by omega),Int.toNat_natCast,hI.Ob hs (by omega) (by omega)])
     exact absurd ((hb j hs).1 this) hd.1
    ·have:=XQ hf (by omega) 0 (by omega) j (by
      unfold Lq
      rw[if_pos (by omega),Int.toNat_natCast,hI.Ob hs (by omega) (by omega)])
     exact absurd ((hb j hs).1 this) hd.1
 ·intro hf
  obtain ⟨y,o,h1,h2,h3,h4⟩:=Zh hf
  unfold Lq at h3
  split at h3
  ·rw[Int.toNat_natCast] at h3
   obtain ⟨s1,_,s3,s4⟩:=Sx h3
   refine ⟨BE m o,List.mem_map.2 ⟨o,E9.2 s1,rfl⟩, ?_⟩
   rw[decide_eq_true_eq,gw hI s1,JY]
   exact ⟨fun e=>h4 ((hb o s1).2 e),by omega,by omega⟩
  ·cases h3
theorem tB (k:Nat) (hk:5000≤k) (h:RG σ i m t) (a but bid:Int) {r d c:Int} (hv:valid r d c=true) (hb:∀ o,Start m o→(((2*o:Nat):Int)=but↔m.wds.getD (2*o) 0=bid)):
  ∃ τ,IU (k+4) (AY i) a r d c bid σ=some (.int .i64 (OK m a (UQ (num r d c)) but),σ++τ):=by
 have hnt:=h.nt
 have hwl:=h.wl
 have hol:=h.ol
 have hsz:words r d c=(UQ (num r d c):Int):=by
  obtain ⟨p1,p2,p3,_⟩:=PG hv
  rw[kG,p1,p2,p3]
 have hs2:=Qb hv
 have hv':=hv
 simp[valid] at hv'
 have hW:UQ (num r d c) % 2=0∧2≤UQ (num r d c)∧UQ (num r d c)≤218:=by rw[hs2]; omega
 obtain ⟨W,hWe⟩:∃ W,UQ (num r d c)=W:=⟨_,rfl⟩
 rw[hWe] at hsz hW ⊢
 obtain ⟨B,hB⟩:∃ B,AJ.cells [.int .i64 r,.int .i64 d,.int .i64 c] Ag true=B:=⟨_,rfl⟩
 have hg:=h.app [B]
 have hq:(σ++[B])[σ.length]?=some (.cells [.int .i64 r,.int .i64 d,.int .i64 c] Ag true):=by rw[← hB]; simp
 rw[Xh,Tq]
 simp only[An,hB]
 unfold OK
 by_cases h0:a<0
 ·rw[if_pos (show ¬(0≤a∧a<(m.wds.length:Int)∧a.toNat % 2=0) by omega)]
  refine ⟨[B], ?_⟩
  simp only[decide_eq_true h0,cond_true,Option.bind_some]
 obtain ⟨n,rfl⟩:∃ n:Nat,a=(n:Int):=⟨a.toNat,by omega⟩
 rw[Int.toNat_natCast]
 have hm2:((n:Int)).tmod 2=((n % 2:Nat):Int):=rfl
 by_cases h1:n % 2=0
 rotate_left
 ·rw[if_pos (show ¬(0≤(n:Int)∧(n:Int)<(m.wds.length:Int)∧n % 2=0) by omega)]
  refine ⟨[B], ?_⟩
  have:(((n % 2:Nat):Int) != 0)=true:=bne_iff_ne.2 (by omega)
  simp only[decide_eq_false h0,cond_false,show ((2:Int)=0)=False from by decide,if_false,hm2,this,cond_true,Option.bind_some]
 have e2:(((n % 2:Nat):Int) != 0)=false:=by rw[h1]; rfl
 have w64l:Ae (((m.bls.length:Nat):Int)*64)=((m.wds.length:Nat):Int):=by rw[Ad (by unfold AV; omega)]; omega
 by_cases h3:n<m.wds.length
 rotate_left
 ·rw[if_pos (show ¬(0≤(n:Int)∧(n:Int)<(m.wds.length:Int)∧n % 2=0) by omega)]
  refine ⟨[B], ?_⟩
  simp only[decide_eq_false h0,cond_false,show ((2:Int)=0)=False from by decide,if_false,hm2,e2,Option.bind_some,Nat.zero_add,Nat.add_zero,hg.at_.SX,hg.bn,w64l,decide_eq_true (show (n:Int)≥((m.wds.length:Nat):Int) by omega),cond_true]
 rw[if_neg (show ¬¬(0≤(n:Int)∧(n:Int)<(m.wds.length:Int)∧n % 2=0) by omega)]
 obtain ⟨b0,b1,b2⟩:=Rp hq
 obtain ⟨τ1,eL⟩:=bQ k r d c (σ++[B])
 have hg1:=hg.app τ1
 have hq1:(σ++[B]++τ1)[σ.length]?=_:=(List.getElem?_append_left (Af hq)).trans hq
 obtain ⟨d0,d1,d2⟩:=Rp hq1
 have hnb:n/64<m.bls.length:=by omega
 have wb:Ae (((n:Int)).tdiv 64)=((n/64:Nat):Int):=by rw[show ((n:Int)).tdiv 64=((n/64:Nat):Int) from rfl]; exact Ad (by unfold AV; omega)
 have hm64:((n:Int)).tmod 64=((n % 64:Nat):Int):=rfl
 obtain ⟨qb,eb,lb0,_,_⟩:=ay hg1 hnb
 have qx:(0≤((n/64:Nat):Int)∧((n/64:Nat):Int)<((m.bls.length:Nat):Int))=True:=eq_true (by omega)
 have loop:∀ μ:Aa,∃ τ',((DA (k+3) (k+3) (AY i) (n:Int) bid σ.length (0:Int) (σ++[B]++μ)).bind fun r67=>if r67.1 = .exit 0 then (some (Value.int .i64 (0:Int),r67.2.2)) else if r67.1 = .ret then (UM r67.2.1 fun n68=>some (.int .i64 n68,r67.2.2)) else none)=some (Value.int .i64 (if Ol m (n+W) but 200 n then 0 else 8),σ++τ'):=by
  intro μ
  obtain ⟨τ',e⟩:=T7 (k+1) hg (n:Int) bid (by omega) hq t.ob.length 0 (k+3) μ (by omega) (by omega)
  rw[List.drop_zero,h.sim.ob,hsz,tv h.inv h1 hW.1 hW.2.1 hW.2.2 hb,show ((0:Nat):Int)=0 from rfl] at e
  have e':DA (k+3) (k+3) (AY i) (n:Int) bid σ.length 0 (σ++[B]++μ)=_:=e
  refine ⟨[B]++τ', ?_⟩
  rw[e',← List.append_assoc]
  cases Ol m (n+W) but 200 n with
  | true=>simp only[Bool.not_true,Bool.false_eq_true,if_false,Option.bind_some,if_true]
  | false=>simp only[Bool.not_false,if_true,Option.bind_some,reduceCtorEq,if_false,DQ,Bool.false_eq_true]
 simp only[decide_eq_false h0,cond_false,show ((2:Int)=0)=False from by decide,if_false,hm2,e2,Option.bind_some,Nat.zero_add,Nat.add_zero,Nat.reduceAdd,hg.at_.SX,hg.bn,w64l,decide_eq_false (show ¬ (n:Int)≥((m.wds.length:Nat):Int) by omega),show ((64:Int)=0)=False from by decide,b0,b1,b2,eL,Ao,hsz]
 by_cases hL:W≤32
 ·rw[if_pos hL,decide_eq_false (by omega)]
  simp only[cond_false,hg1.at_.SX,hg1.bn,wb,qx,if_true,eb,Option.bind_some,Int.toNat_natCast,Nat.zero_add,lb0]
  by_cases s1:(m.bls.getD (n/64) (0,0)).1=1
  ·obtain ⟨τ2,eW⟩:=HG (k+1) r d c (σ++[B]++τ1)
   rw[hsz] at eW
   have wa:Ae ((n:Int)+(W:Int))=((n+W:Nat):Int):=by rw[Ad (by unfold AV; omega)]; omega
   have wc:Ae (((n+W:Nat):Int)-1)=((n+W-1:Nat):Int):=by rw[Ad (by unfold AV; omega)]; omega
   have wd:Ae ((((n+W-1:Nat):Int)).tdiv 64)=(((n+W-1)/64:Nat):Int):=by rw[show (((n+W-1:Nat):Int)).tdiv 64=(((n+W-1)/64:Nat):Int) from rfl]; exact Ad (by unfold AV; omega)
   simp only[s1,bne_self_eq_false,cond_false,d0,d1,d2,Option.bind_some,eW,Am,wa,wc,wd]
   by_cases s2:(n+W-1)/64=n/64
   ·have:((((n+W-1)/64:Nat):Int) != ((n/64:Nat):Int))=false:=by rw[s2]; exact bne_self_eq_false _
    obtain ⟨τ',e'⟩:=loop (τ1++τ2)
    rw[if_neg (fun hh=>hh.elim (fun h=>h rfl) (fun h=>h s2))]
    refine ⟨τ', ?_⟩
    simp only[this,cond_false,Option.bind_some,if_true]
    rw[List.append_assoc (σ++[B])]
    exact e'
   ·have:((((n+W-1)/64:Nat):Int) != ((n/64:Nat):Int))=true:=bne_iff_ne.2 (by omega)
    rw[if_pos (.inr s2)]
    refine ⟨[B]++τ1++τ2, ?_⟩
    simp only[this,cond_true,Option.bind_some,reduceCtorEq,if_false,if_true,DQ,List.append_assoc]
  ·rw[if_pos (.inl s1)]
   refine ⟨[B]++τ1, ?_⟩
   simp only[bne_iff_ne.2 s1,cond_true,Option.bind_some,reduceCtorEq,if_false,if_true,DQ,List.append_assoc]
 ·rw[if_neg hL,decide_eq_true (by omega)]
  simp only[cond_true,hm64]
  by_cases s0:n % 64=0
  rotate_left
  ·have:(((n % 64:Nat):Int) != 0)=true:=bne_iff_ne.2 (by omega)
   rw[if_pos (.inr (.inl s0))]
   refine ⟨[B]++τ1, ?_⟩
   simp only[this,cond_true,Option.bind_some,reduceCtorEq,if_false,if_true,DQ,List.append_assoc]
  have e0:(((n % 64:Nat):Int) != 0)=false:=by rw[s0]; rfl
  simp only[e0,cond_false,hg1.at_.SX,hg1.bn,wb,qx,if_true,eb,Option.bind_some,Int.toNat_natCast,Nat.zero_add,lb0]
  by_cases s1:(m.bls.getD (n/64) (0,0)).1=2
  rotate_left
  ·rw[if_pos (.inl s1)]
   refine ⟨[B]++τ1, ?_⟩
   simp only[bne_iff_ne.2 s1,cond_true,Option.bind_some,reduceCtorEq,if_false,if_true,DQ,List.append_assoc]
  have eWh:Co (k+3) (AY i) ((n/64:Nat):Int) (σ++[B]++τ1)=_:=bR (k+2) (by omega) hg1 hnb
  have hwn:TX m (n/64)=GS m (n/64):=by unfold TX; rw[if_neg (by rw[s1]; decide),if_pos s1]
  obtain ⟨τ2,eN⟩:=my k r d c (σ++[B]++τ1)
  have hnd:(words r d c+63).tdiv 64=(((W+63)/64:Nat):Int):=by rw[hsz]; rfl
  rw[hnd] at eN
  simp only[s1,bne_self_eq_false,cond_false,eWh,Option.bind_some,Am,hwn,d0,d1,d2,eN]
  by_cases s2:GS m (n/64)=(W+63)/64
  ·have:(((GS m (n/64):Nat):Int) != (((W+63)/64:Nat):Int))=false:=by rw[s2]; exact bne_self_eq_false _
   obtain ⟨τ',e'⟩:=loop (τ1++τ2)
   rw[if_neg (fun hh=>hh.elim (fun h=>h rfl) (fun h=>h.elim (fun h=>h s0) (fun h=>h s2)))]
   refine ⟨τ', ?_⟩
   simp only[this,cond_false,Option.bind_some,if_true]
   rw[List.append_assoc (σ++[B])]
   exact e'
  ·have:(((GS m (n/64):Nat):Int) != (((W+63)/64:Nat):Int))=true:=bne_iff_ne.2 (by omega)
   rw[if_pos (.inr (.inr s2))]
   refine ⟨[B]++τ1++τ2, ?_⟩
   simp only[this,cond_true,Option.bind_some,reduceCtorEq,if_false,if_true,DQ,List.append_assoc]
end Go.Proofs.YtlaplcglpnlieaaGreat
end
