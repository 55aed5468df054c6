/-
  RU RV RW RX RY.
-/
import Derived.Test.YtlaplcglpnlieaaGreatM1
set_option linter.unusedVariables false
set_option linter.unusedSimpArgs false
namespace Go.Proofs.YtlaplcglpnlieaaGreat
open Go Go.AX
section
open Go Go.AX
noncomputable local instance qRU:Quiet:=fullQuiet
local instance nRU:Kn:=⟨true⟩
variable {σ:AMem} {m:HM} {t:RM} {i:RI}
theorem rblk_ld (h:RG σ i m t) {b:Nat} (hb:b<m.bls.length):∃ q,i.bs.1=some ⟨q,0,none⟩∧ldI .i64 σ q (b*2)=some (m.bls.getD b (0,0)).1∧ldI .i64 σ q (b*2+1)=some (m.bls.getD b (0,0)).2∧σ[q]?=some (.cells (blRow m.bls) ty_dustcartref02_Block true):=by
  obtain ⟨q,e,l0,l1,hc⟩:=pair_ld h.at_.bl (x:=b) (by rw[h.bn]; exact hb)
  rw[h.sim.bl] at l0 l1 hc
  exact ⟨q,e,l0,l1,hc⟩
theorem rWhole_l0_to (k:Nat) (h:RG σ i m t) {b:Nat} (hb:b<m.bls.length) (hst:(m.bls.getD b (0,0)).1=2):∀ (f n:Nat),m.bls.length≤b+n+f→n≤m.bls.length→d_ref02_Heap_Whole_l0 k (f+1) (rptr i) (b:Int) (n:Int) σ=some (.exit 0,[.int .i64 (spanM m b f n:Int)],σ)
  | 0,n,h1,h2=>by
    have hnt:=h.nt
    rw[d_ref02_Heap_Whole_l0_eq,b_ref02_Heap_Whole_l0,spanM]
    have w:w64 ((b:Int)+(n:Int))=((b+n:Nat):Int):=by rw[w64_in (by unfold inI; omega)]; omega
    have q:decide (((b+n:Nat):Int)<((m.bls.length:Nat):Int))=false:=decide_eq_false (by omega)
    simp only[Option.bind_some,Nat.zero_add,Nat.add_zero,h.at_.ld0,h.bn,w,q,cond_false]
  | f+1,n,h1,h2=>by
    have hnt:=h.nt
    rw[d_ref02_Heap_Whole_l0_eq,b_ref02_Heap_Whole_l0,spanM]
    have w:w64 ((b:Int)+(n:Int))=((b+n:Nat):Int):=by rw[w64_in (by unfold inI; omega)]; omega
    have w1:w64 ((n:Int)+1)=((n+1:Nat):Int):=w64_in (by unfold inI; omega)
    simp only[Option.bind_some,Nat.zero_add,Nat.add_zero,h.at_.ld0,h.bn,w,hst,true_and]
    by_cases hc:b+n<m.bls.length
    · obtain ⟨q,e,l0,_,_⟩:=rblk_ld h hc
      have q1:decide (((b+n:Nat):Int)<((m.bls.length:Nat):Int))=true:=decide_eq_true (by omega)
      have qx:(0≤((b+n:Nat):Int)∧((b+n:Nat):Int)<((m.bls.length:Nat):Int))=True:=eq_true (by omega)
      simp only[q1,cond_true,qx,if_true,e,Option.bind_some,Int.toNat_natCast,Nat.zero_add,l0]
      by_cases h3:(m.bls.getD (b+n) (0,0)).1=3
      · rw[if_pos ⟨hc,h3⟩,beq_iff_eq.2 h3]
        simp only[cond_true,w1]
        exact rWhole_l0_to k h hb hst f (n+1) (by omega) (by omega)
      · rw[if_neg (fun h=>h3 h.2),beq_eq_false_iff_ne.2 h3]
        simp only[cond_false]
    · have q1:decide (((b+n:Nat):Int)<((m.bls.length:Nat):Int))=false:=decide_eq_false (by omega)
      have qn:(b+n<m.bls.length∧(m.bls.getD (b+n) (0,0)).1=3)=False:=eq_false (fun h=>hc h.1)
      simp only[q1,cond_false,Option.bind_some,qn,if_false]
def wholeN (m:HM) (b:Nat):Nat:=if (m.bls.getD b (0,0)).1=1 then 1 else if (m.bls.getD b (0,0)).1=2 then spanF m b else 0
theorem rWhole_to (k:Nat) (hk:100≤k) (h:RG σ i m t) {b:Nat} (hb:b<m.bls.length):d_ref02_Heap_Whole (k+1) (rptr i) (b:Int) σ=some (.int .i64 (wholeN m b:Int),σ):=by
  have hnt:=h.nt
  obtain ⟨q,e,l0,_,_⟩:=rblk_ld h hb
  have qx:(0≤(b:Int)∧(b:Int)<((m.bls.length:Nat):Int))=True:=eq_true (by omega)
  rw[d_ref02_Heap_Whole_eq,b_ref02_Heap_Whole]
  simp only[Option.bind_some,Nat.zero_add,Nat.add_zero,h.at_.ld0,h.bn,qx,if_true,e,Int.toNat_natCast,l0]
  unfold wholeN
  by_cases h1:(m.bls.getD b (0,0)).1=1
  · rw[if_pos h1,beq_iff_eq.2 h1]; rfl
  rw[if_neg h1,beq_eq_false_iff_ne.2 h1]
  by_cases h2:(m.bls.getD b (0,0)).1=2
  · rw[if_pos h2]
    have e1:=rWhole_l0_to k h hb h2 (k-1) 1 (by omega) (by omega)
    rw[show k-1+1=k from by omega] at e1
    have e1':d_ref02_Heap_Whole_l0 k k (rptr i) (b:Int) 1 σ=_:=e1
    simp only[h2,bne_self_eq_false,cond_false,e1',Option.bind_some,if_true,u_i_eq]
    rw[spanM_more m b (k-1) m.bls.length 1 (by omega) (by omega)]; rfl
  · rw[if_neg h2]
    simp only[cond_false,bne_iff_ne.2 h2,cond_true]
    rfl
theorem words_range (r d k:Int):0≤words r d k∧words r d k≤218:=words_nonneg r d k
theorem rNeed_to (k:Nat) (r d c:Int) (σ:AMem):∃ τ,d_ref02_Need (k+3) r d c σ=some (.int .i64 ((words r d c+63).tdiv 64),σ++τ):=by
  obtain ⟨τ,e⟩:=ref_Words_to k r d c (σ++[AObj.cells [.int .i64 r,.int .i64 d,.int .i64 c] ty_api_Shape true])
  have hw:=words_range r d c
  refine ⟨[AObj.cells [.int .i64 r,.int .i64 d,.int .i64 c] ty_api_Shape true]++τ, ?_⟩
  rw[d_ref02_Need_eq,b_ref02_Need]
  simp only[allocK,ldI_new,Nat.zero_add,Nat.reduceAdd,List.getElem?_cons_zero,List.getElem?_cons_succ,Option.bind_some,toI_int,e,show ((64:Int)=0)=False from by decide,if_false]
  have w1:w64 (words r d c+64)=words r d c+64:=w64_in (by unfold inI; omega)
  have w2:w64 (words r d c+64-1)=words r d c+63:=by rw[w64_in (by unfold inI; omega)]; omega
  obtain ⟨n,hn⟩:∃ n:Nat,words r d c+63=(n:Int):=⟨(words r d c+63).toNat,by omega⟩
  have w3:w64 ((words r d c+63).tdiv 64)=(words r d c+63).tdiv 64:=by
    rw[hn,show ((n:Int)).tdiv 64=((n/64:Nat):Int) from rfl]; exact w64_in (by unfold inI; omega)
  rw[w1,w2,w3,List.append_assoc]
theorem rLarge_to (k:Nat) (r d c:Int) (σ:AMem):∃ τ,d_ref02_Large (k+3) r d c σ=some (.bool (decide (words r d c>32)),σ++τ):=by
  obtain ⟨τ,e⟩:=ref_Words_to k r d c (σ++[AObj.cells [.int .i64 r,.int .i64 d,.int .i64 c] ty_api_Shape true])
  refine ⟨[AObj.cells [.int .i64 r,.int .i64 d,.int .i64 c] ty_api_Shape true]++τ, ?_⟩
  rw[d_ref02_Large_eq,b_ref02_Large]
  simp only[allocK,ldI_new,Nat.zero_add,Nat.reduceAdd,List.getElem?_cons_zero,List.getElem?_cons_succ,Option.bind_some,toI_int,e]
  rw[List.append_assoc]
theorem box3_ld {q:Nat} {x y z:Int} {T:TypeId} (h:σ[q]?=some (.cells [.int .i64 x,.int .i64 y,.int .i64 z] T true)):ldI .i64 σ q 0=some x∧ldI .i64 σ q 1=some y∧ldI .i64 σ q 2=some z:=by
  refine ⟨?_, ?_, ?_⟩ <;> simp[ldI,ld1,h,toI]
theorem rfits_l0_to (k:Nat) (h:RG σ i m t) (a but:Int) (ha:0≤a∧a<4096) {q:Nat} {r d c:Int} (hq:σ[q]?=some (.cells [.int .i64 r,.int .i64 d,.int .i64 c] ty_api_Shape true)):∀ (n x f:Nat) (τ:AMem),x+n=t.ob.length→n<f →
    ∃ τ',d_ref02_Heap_fits_l0 (k+2) f (rptr i) a but q (x:Int) (σ++τ)=some (if rOver (t.ob.drop x) a (words r d c) but then (.ret,[.int .i64 8],σ++τ') else (.exit 0,[],σ++τ'))
  | 0,x,0,τ,hx,hf=>by omega
  | 0,x,f+1,τ,hx,hf=>by
    have hg:=h.app τ
    rw[d_ref02_Heap_fits_l0_eq,b_ref02_Heap_fits_l0,List.drop_eq_nil_of_le (by omega)]
    have q:decide ((x:Int)<((t.ob.length:Nat):Int))=false:=decide_eq_false (by omega)
    exact ⟨τ,by simp only[Option.bind_some,Nat.zero_add,hg.at_.ld1',q,cond_false,rOver,List.any_nil,Bool.false_eq_true,if_false]⟩
  | n+1,x,0,τ,hx,hf=>by omega
  | n+1,x,f+1,τ,hx,hf=>by
    have hol:=h.ol
    have hxl:x<t.ob.length:=by omega
    have hg:=h.app τ
    obtain ⟨j,b,p,A⟩:=hg.ath hxl
    have hz:=h.inv.size A.st
    have hjl:=A.lt
    have hw:=roOf_w h.inv A.st
    have hwr:=words_range r d c
    have hoj:t.ob[x]=roOf m j:=by
      obtain ⟨j2,g1,_,_,g4⟩:=h.drop hxl
      rw[A.all] at g1; cases g1
      rw[List.getElem?_eq_getElem hxl] at g4; exact Option.some.inj g4
    have hov:rOver (t.ob.drop x) a (words r d c) but=(decide ((roOf m j).id≠but∧((2*j:Nat):Int)<a+words r d c∧a<((2*j:Nat):Int)+(sz m j:Int)) || rOver (t.ob.drop (x+1)) a (words r d c) but):=by
      rw[List.drop_eq_getElem_cons hxl,hoj]
      unfold rOver
      rw[List.any_cons,hw,roOf_addr]
    obtain ⟨B,hB⟩:∃ B,AObj.cells (roCells (roOf m j) p) ty_dustcartref02_Object true=B:=⟨_,rfl⟩
    have st:stN (σ++τ++[AObj.cells [.int .i64 0,.int .i64 0,.int .i64 0,.int .i64 0,.int .i64 0,.slice none 0 0,.slice none 0 0,.bool false] ty_dustcartref02_Object true]) (σ++τ).length 0 [.int .i64 (roOf m j).addr,.int .i64 (roOf m j).id,.int .i64 (roOf m j).r,.int .i64 (roOf m j).d,.int .i64 (roOf m j).k,.slice p.1.1 p.1.2.1 p.1.2.2,.slice p.2.1 p.2.2.1 p.2.2.2,.bool (roOf m j).pin]=some (σ++τ++[B]):=by
      rw[stN_box8,← hB]; rfl
    have lb:∀ (τ':AMem) (o:Nat),ldI .i64 (σ++τ++[B]++τ') (σ++τ).length o=((roCells (roOf m j) p)[o]?).bind (toI .i64):=fun τ' o=>by rw[← hB]; exact ldI_newapp _ _ _ _ _ _ _
    have lb0:∀ (o:Nat),ldI .i64 (σ++τ++[B]) (σ++τ).length o=((roCells (roOf m j) p)[o]?).bind (toI .i64):=fun o=>by have:=lb [] o; rwa [List.append_nil] at this
    have hq':(σ++τ++[B])[q]?=some (.cells [.int .i64 r,.int .i64 d,.int .i64 c] ty_api_Shape true):=by
      rw[List.append_assoc,List.getElem?_append_left (getElem?_lt hq)]; exact hq
    obtain ⟨b0,b1,b2⟩:=box3_ld hq'
    obtain ⟨τ1,e1⟩:=ref_Words_to k r d c (σ++τ++[B])
    obtain ⟨τ2,e2⟩:=ref_Words_to k (refsAt m j) (dataAt m j) (kindAt m j) (σ++τ++[B]++τ1)
    rw[(word1 h.inv A.st).2.2.2.2.2.2.2] at e2
    have q0:decide ((x:Int)<((t.ob.length:Nat):Int))=true:=decide_eq_true (by omega)
    have qx:(0≤(x:Int)∧(x:Int)<((t.ob.length:Nat):Int))=True:=eq_true (by omega)
    have w1:w64 ((x:Int)+1)=((x+1:Nat):Int):=w64_in (by unfold inI; omega)
    have w2:w64 (a+words r d c)=a+words r d c:=w64_in (by unfold inI; omega)
    have w3:w64 (((2*j:Nat):Int)+(sz m j:Int))=((2*j:Nat):Int)+(sz m j:Int):=w64_in (by unfold inI; omega)
    have c0:((roCells (roOf m j) p)[0]?).bind (toI .i64)=some ((2*j:Nat):Int):=rfl
    have c1:((roCells (roOf m j) p)[1]?).bind (toI .i64)=some (roOf m j).id:=rfl
    have c2:((roCells (roOf m j) p)[2]?).bind (toI .i64)=some (refsAt m j):=rfl
    have c3:((roCells (roOf m j) p)[3]?).bind (toI .i64)=some (dataAt m j):=rfl
    have c4:((roCells (roOf m j) p)[4]?).bind (toI .i64)=some (kindAt m j):=rfl
    rw[hov,d_ref02_Heap_fits_l0_eq,b_ref02_Heap_fits_l0]
    simp only[Option.bind_some,Nat.zero_add,Nat.add_zero,Nat.add_assoc,Nat.reduceAdd,hg.at_.ld1',q0,cond_true,qx,if_true,A.os,Int.toNat_natCast,A.ld.l0,A.ld.l1,A.ld.l2,A.ld.l3,A.ld.l4,A.ld.l5,A.ld.l6,A.ld.l7,allocK,st,lb0,c1]
    by_cases d1:(roOf m j).id=but
    · obtain ⟨τ3,e3⟩:=rfits_l0_to k h a but ha hq n (x+1) f (τ++[B]) (by omega) (by omega)
      refine ⟨τ3, ?_⟩
      have:((roOf m j).id != but)=false:=by rw[d1]; exact bne_self_eq_false _
      rw[decide_eq_false (fun h=>h.1 d1),Bool.false_or]
      simp only[← List.append_assoc] at e3
      simp only[this,cond_false,Option.bind_some,w1]
      exact e3
    · have hb1:((roOf m j).id != but)=true:=bne_iff_ne.2 d1
      by_cases d2:((2*j:Nat):Int)<a+words r d c
      · by_cases d3:a<((2*j:Nat):Int)+(sz m j:Int)
        · refine ⟨τ++[B]++τ1++τ2, ?_⟩
          rw[decide_eq_true ⟨d1,d2,d3⟩]
          simp only[hb1,cond_true,lb0,c0,Option.bind_some,b0,b1,b2,e1,toI_int,w2,decide_eq_true d2,lb,c2,c3,c4,e2,w3,decide_eq_true d3,Bool.true_or,if_true]
          simp only[← List.append_assoc]
        · obtain ⟨τ3,e3⟩:=rfits_l0_to k h a but ha hq n (x+1) f (τ++[B]++τ1++τ2) (by omega) (by omega)
          refine ⟨τ3, ?_⟩
          rw[decide_eq_false (fun h=>d3 h.2.2),Bool.false_or]
          simp only[← List.append_assoc] at e3
          simp only[hb1,cond_true,lb0,c0,Option.bind_some,b0,b1,b2,e1,toI_int,w2,decide_eq_true d2,lb,c2,c3,c4,e2,w3,decide_eq_false d3,cond_false,w1]
          exact e3
      · obtain ⟨τ3,e3⟩:=rfits_l0_to k h a but ha hq n (x+1) f (τ++[B]++τ1) (by omega) (by omega)
        refine ⟨τ3, ?_⟩
        rw[decide_eq_false (fun h=>d2 h.2.1),Bool.false_or]
        simp only[← List.append_assoc] at e3
        simp only[hb1,cond_true,lb0,c0,Option.bind_some,b0,b1,b2,e1,toI_int,w2,decide_eq_false d2,cond_false,w1]
        exact e3
theorem fitL_false {hi:Nat} {but:Int}:∀ {f x:Nat},fitL m hi but f x=false → ∃ y o,x≤y∧y<hi∧findI m (y:Int)=some o∧((2*o:Nat):Int)≠but
  | 0,x,h=>by cases h
  | f+1,x,h=>by
    rw[fitL] at h
    split at h
    · rename_i hx
      split at h
      · rename_i o ho
        split at h
        · obtain ⟨y,o',h1,h2⟩:=fitL_false h
          exact ⟨y,o',by omega,h2⟩
        · rename_i hne
          exact ⟨x,o,Nat.le_refl _,hx,ho,hne⟩
      · obtain ⟨y,o',h1,h2⟩:=fitL_false h
        exact ⟨y,o',by omega,h2⟩
    · cases h
theorem rOver_eq (hI:Inv m) {a w:Nat} {but bid:Int} (ha:a % 2=0) (hw:w % 2=0) (hw0:2≤w) (hwl:w≤218) (hb:∀ o,Start m o→(((2*o:Nat):Int)=but↔m.wds.getD (2*o) 0=bid)):rOver (robs m) (a:Int) (w:Int) bid = !fitL m (a+w) but 200 a:=by
  rw[Bool.eq_iff_iff,Bool.not_eq_true']
  unfold rOver robs
  rw[List.any_eq_true]
  constructor
  · rintro ⟨o,ho,hd⟩
    obtain ⟨j,hj,rfl⟩:=List.mem_map.1 ho
    have hs:=mem_allS.1 hj
    rw[decide_eq_true_eq,roOf_w hI hs,roOf_addr] at hd
    have hz:=hI.size hs
    cases hf:fitL m (a+w) but 200 a with
    | false=>rfl
    | true=>
      have hfit:=hI.fit j hs
      by_cases hc:a≤2*j
      · have:=fitL_spec hf (by omega) ((2*j-a)/2) (by omega) j (by
          rw[show a+2*((2*j-a)/2)=2*j from by omega]
          unfold findI
          rw[if_pos (by omega),Int.toNat_natCast,hI.find_some hs (by omega) (by omega)])
        exact absurd ((hb j hs).1 this) hd.1
      · have:=fitL_spec hf (by omega) 0 (by omega) j (by
          unfold findI
          rw[if_pos (by omega),Int.toNat_natCast,hI.find_some hs (by omega) (by omega)])
        exact absurd ((hb j hs).1 this) hd.1
  · intro hf
    obtain ⟨y,o,h1,h2,h3,h4⟩:=fitL_false hf
    unfold findI at h3
    split at h3
    · rw[Int.toNat_natCast] at h3
      obtain ⟨s1,_,s3,s4⟩:=findM_spec h3
      refine ⟨roOf m o,List.mem_map.2 ⟨o,mem_allS.2 s1,rfl⟩, ?_⟩
      rw[decide_eq_true_eq,roOf_w hI s1,roOf_addr]
      exact ⟨fun e=>h4 ((hb o s1).2 e),by omega,by omega⟩
    · cases h3
theorem rfits_to (k:Nat) (hk:5000≤k) (h:RG σ i m t) (a but bid:Int) {r d c:Int} (hv:valid r d c=true) (hb:∀ o,Start m o→(((2*o:Nat):Int)=but↔m.wds.getD (2*o) 0=bid)):
    ∃ τ,d_ref02_Heap_fits (k+4) (rptr i) a r d c bid σ=some (.int .i64 (fitsM m a (szN (num r d c)) but),σ++τ):=by
  have hnt:=h.nt
  have hwl:=h.wl
  have hol:=h.ol
  have hsz:words r d c=(szN (num r d c):Int):=by
    obtain ⟨p1,p2,p3,_⟩:=num_parts hv
    rw[szN_int,p1,p2,p3]
  have hs2:=szN_num hv
  have hv':=hv
  simp[valid] at hv'
  have hW:szN (num r d c) % 2=0∧2≤szN (num r d c)∧szN (num r d c)≤218:=by rw[hs2]; omega
  obtain ⟨W,hWe⟩:∃ W,szN (num r d c)=W:=⟨_,rfl⟩
  rw[hWe] at hsz hW ⊢
  obtain ⟨B,hB⟩:∃ B,AObj.cells [.int .i64 r,.int .i64 d,.int .i64 c] ty_api_Shape true=B:=⟨_,rfl⟩
  have hg:=h.app [B]
  have hq:(σ++[B])[σ.length]?=some (.cells [.int .i64 r,.int .i64 d,.int .i64 c] ty_api_Shape true):=by rw[← hB]; simp
  rw[d_ref02_Heap_fits_eq,b_ref02_Heap_fits]
  simp only[allocK,hB]
  unfold fitsM
  by_cases h0:a<0
  · rw[if_pos (show ¬(0≤a∧a<(m.wds.length:Int)∧a.toNat % 2=0) by omega)]
    refine ⟨[B], ?_⟩
    simp only[decide_eq_true h0,cond_true,Option.bind_some]
  obtain ⟨n,rfl⟩:∃ n:Nat,a=(n:Int):=⟨a.toNat,by omega⟩
  rw[Int.toNat_natCast]
  have hm2:((n:Int)).tmod 2=((n % 2:Nat):Int):=rfl
  by_cases h1:n % 2=0
  rotate_left
  · rw[if_pos (show ¬(0≤(n:Int)∧(n:Int)<(m.wds.length:Int)∧n % 2=0) by omega)]
    refine ⟨[B], ?_⟩
    have:(((n % 2:Nat):Int) != 0)=true:=bne_iff_ne.2 (by omega)
    simp only[decide_eq_false h0,cond_false,show ((2:Int)=0)=False from by decide,if_false,hm2,this,cond_true,Option.bind_some]
  have e2:(((n % 2:Nat):Int) != 0)=false:=by rw[h1]; rfl
  have w64l:w64 (((m.bls.length:Nat):Int)*64)=((m.wds.length:Nat):Int):=by rw[w64_in (by unfold inI; omega)]; omega
  by_cases h3:n<m.wds.length
  rotate_left
  · rw[if_pos (show ¬(0≤(n:Int)∧(n:Int)<(m.wds.length:Int)∧n % 2=0) by omega)]
    refine ⟨[B], ?_⟩
    simp only[decide_eq_false h0,cond_false,show ((2:Int)=0)=False from by decide,if_false,hm2,e2,Option.bind_some,Nat.zero_add,Nat.add_zero,hg.at_.ld0,hg.bn,w64l,decide_eq_true (show (n:Int)≥((m.wds.length:Nat):Int) by omega),cond_true]
  rw[if_neg (show ¬¬(0≤(n:Int)∧(n:Int)<(m.wds.length:Int)∧n % 2=0) by omega)]
  obtain ⟨b0,b1,b2⟩:=box3_ld hq
  obtain ⟨τ1,eL⟩:=rLarge_to k r d c (σ++[B])
  have hg1:=hg.app τ1
  have hq1:(σ++[B]++τ1)[σ.length]?=_:=(List.getElem?_append_left (getElem?_lt hq)).trans hq
  obtain ⟨d0,d1,d2⟩:=box3_ld hq1
  have hnb:n/64<m.bls.length:=by omega
  have wb:w64 (((n:Int)).tdiv 64)=((n/64:Nat):Int):=by rw[show ((n:Int)).tdiv 64=((n/64:Nat):Int) from rfl]; exact w64_in (by unfold inI; omega)
  have hm64:((n:Int)).tmod 64=((n % 64:Nat):Int):=rfl
  obtain ⟨qb,eb,lb0,_,_⟩:=rblk_ld hg1 hnb
  have qx:(0≤((n/64:Nat):Int)∧((n/64:Nat):Int)<((m.bls.length:Nat):Int))=True:=eq_true (by omega)
  have loop:∀ μ:AMem,∃ τ',((d_ref02_Heap_fits_l0 (k+3) (k+3) (rptr i) (n:Int) bid σ.length (0:Int) (σ++[B]++μ)).bind fun r67=>if r67.1 = .exit 0 then (some (Value.int .i64 (0:Int),r67.2.2)) else if r67.1 = .ret then (u_i r67.2.1 fun n68=>some (.int .i64 n68,r67.2.2)) else none)=some (Value.int .i64 (if fitL m (n+W) but 200 n then 0 else 8),σ++τ'):=by
    intro μ
    obtain ⟨τ',e⟩:=rfits_l0_to (k+1) hg (n:Int) bid (by omega) hq t.ob.length 0 (k+3) μ (by omega) (by omega)
    rw[List.drop_zero,h.sim.ob,hsz,rOver_eq h.inv h1 hW.1 hW.2.1 hW.2.2 hb,show ((0:Nat):Int)=0 from rfl] at e
    have e':d_ref02_Heap_fits_l0 (k+3) (k+3) (rptr i) (n:Int) bid σ.length 0 (σ++[B]++μ)=_:=e
    refine ⟨[B]++τ', ?_⟩
    rw[e',← List.append_assoc]
    cases fitL m (n+W) but 200 n with
    | true=>simp only[Bool.not_true,Bool.false_eq_true,if_false,Option.bind_some,if_true]
    | false=>simp only[Bool.not_false,if_true,Option.bind_some,reduceCtorEq,if_false,u_i_eq,Bool.false_eq_true]
  simp only[decide_eq_false h0,cond_false,show ((2:Int)=0)=False from by decide,if_false,hm2,e2,Option.bind_some,Nat.zero_add,Nat.add_zero,Nat.reduceAdd,hg.at_.ld0,hg.bn,w64l,decide_eq_false (show ¬ (n:Int)≥((m.wds.length:Nat):Int) by omega),show ((64:Int)=0)=False from by decide,b0,b1,b2,eL,toB_bool,hsz]
  by_cases hL:W≤32
  · rw[if_pos hL,decide_eq_false (by omega)]
    simp only[cond_false,hg1.at_.ld0,hg1.bn,wb,qx,if_true,eb,Option.bind_some,Int.toNat_natCast,Nat.zero_add,lb0]
    by_cases s1:(m.bls.getD (n/64) (0,0)).1=1
    · obtain ⟨τ2,eW⟩:=ref_Words_to (k+1) r d c (σ++[B]++τ1)
      rw[hsz] at eW
      have wa:w64 ((n:Int)+(W:Int))=((n+W:Nat):Int):=by rw[w64_in (by unfold inI; omega)]; omega
      have wc:w64 (((n+W:Nat):Int)-1)=((n+W-1:Nat):Int):=by rw[w64_in (by unfold inI; omega)]; omega
      have wd:w64 ((((n+W-1:Nat):Int)).tdiv 64)=(((n+W-1)/64:Nat):Int):=by rw[show (((n+W-1:Nat):Int)).tdiv 64=(((n+W-1)/64:Nat):Int) from rfl]; exact w64_in (by unfold inI; omega)
      simp only[s1,bne_self_eq_false,cond_false,d0,d1,d2,Option.bind_some,eW,toI_int,wa,wc,wd]
      by_cases s2:(n+W-1)/64=n/64
      · have:((((n+W-1)/64:Nat):Int) != ((n/64:Nat):Int))=false:=by rw[s2]; exact bne_self_eq_false _
        obtain ⟨τ',e'⟩:=loop (τ1++τ2)
        rw[if_neg (fun hh=>hh.elim (fun h=>h rfl) (fun h=>h s2))]
        refine ⟨τ', ?_⟩
        simp only[this,cond_false,Option.bind_some,if_true]
        rw[List.append_assoc (σ++[B])]
        exact e'
      · have:((((n+W-1)/64:Nat):Int) != ((n/64:Nat):Int))=true:=bne_iff_ne.2 (by omega)
        rw[if_pos (.inr s2)]
        refine ⟨[B]++τ1++τ2, ?_⟩
        simp only[this,cond_true,Option.bind_some,reduceCtorEq,if_false,if_true,u_i_eq,List.append_assoc]
    · rw[if_pos (.inl s1)]
      refine ⟨[B]++τ1, ?_⟩
      simp only[bne_iff_ne.2 s1,cond_true,Option.bind_some,reduceCtorEq,if_false,if_true,u_i_eq,List.append_assoc]
  · rw[if_neg hL,decide_eq_true (by omega)]
    simp only[cond_true,hm64]
    by_cases s0:n % 64=0
    rotate_left
    · have:(((n % 64:Nat):Int) != 0)=true:=bne_iff_ne.2 (by omega)
      rw[if_pos (.inr (.inl s0))]
      refine ⟨[B]++τ1, ?_⟩
      simp only[this,cond_true,Option.bind_some,reduceCtorEq,if_false,if_true,u_i_eq,List.append_assoc]
    have e0:(((n % 64:Nat):Int) != 0)=false:=by rw[s0]; rfl
    simp only[e0,cond_false,hg1.at_.ld0,hg1.bn,wb,qx,if_true,eb,Option.bind_some,Int.toNat_natCast,Nat.zero_add,lb0]
    by_cases s1:(m.bls.getD (n/64) (0,0)).1=2
    rotate_left
    · rw[if_pos (.inl s1)]
      refine ⟨[B]++τ1, ?_⟩
      simp only[bne_iff_ne.2 s1,cond_true,Option.bind_some,reduceCtorEq,if_false,if_true,u_i_eq,List.append_assoc]
    have eWh:d_ref02_Heap_Whole (k+3) (rptr i) ((n/64:Nat):Int) (σ++[B]++τ1)=_:=rWhole_to (k+2) (by omega) hg1 hnb
    have hwn:wholeN m (n/64)=spanF m (n/64):=by unfold wholeN; rw[if_neg (by rw[s1]; decide),if_pos s1]
    obtain ⟨τ2,eN⟩:=rNeed_to k r d c (σ++[B]++τ1)
    have hnd:(words r d c+63).tdiv 64=(((W+63)/64:Nat):Int):=by rw[hsz]; rfl
    rw[hnd] at eN
    simp only[s1,bne_self_eq_false,cond_false,eWh,Option.bind_some,toI_int,hwn,d0,d1,d2,eN]
    by_cases s2:spanF m (n/64)=(W+63)/64
    · have:(((spanF m (n/64):Nat):Int) != (((W+63)/64:Nat):Int))=false:=by rw[s2]; exact bne_self_eq_false _
      obtain ⟨τ',e'⟩:=loop (τ1++τ2)
      rw[if_neg (fun hh=>hh.elim (fun h=>h rfl) (fun h=>h.elim (fun h=>h s0) (fun h=>h s2)))]
      refine ⟨τ', ?_⟩
      simp only[this,cond_false,Option.bind_some,if_true]
      rw[List.append_assoc (σ++[B])]
      exact e'
    · have:(((spanF m (n/64):Nat):Int) != (((W+63)/64:Nat):Int))=true:=bne_iff_ne.2 (by omega)
      rw[if_pos (.inr (.inr s2))]
      refine ⟨[B]++τ1++τ2, ?_⟩
      simp only[this,cond_true,Option.bind_some,reduceCtorEq,if_false,if_true,u_i_eq,List.append_assoc]
end
section
open Go Go.AX
noncomputable local instance qRV:Quiet:=fullQuiet
local instance nRV:Kn:=⟨true⟩
variable {σ:AMem} {m:HM} {t:RM} {i:RI}
theorem IntsG.app {s:SlV} {l:List Int} (h:IntsG σ s l) (τ:AMem):IntsG (σ++τ) s l:=
  ⟨h.1,fun hn=>by
    obtain ⟨b,c,e,hc⟩:=h.2.1 hn
    exact ⟨b,c,e,(List.getElem?_append_left (getElem?_lt hc)).trans hc⟩,fun a ha=>by
    obtain ⟨cs,T,w,h1,h2⟩:=h.2.2 a ha
    exact ⟨cs,T,w,(List.getElem?_append_left (getElem?_lt h1)).trans h1,h2⟩⟩
theorem hasM_start {j:Nat} (hs:Start m j):hasM m ((2*j:Nat):Int)=true:=by
  unfold hasM
  rw[decide_eq_true_eq,Int.toNat_natCast,show 2*j/2=j from by omega]
  exact ⟨by omega,by omega,hs⟩
theorem rword_to (k:Nat) (h:RG σ i m t) (a:Int):d_ref02_Heap_word (k+1) (rptr i) a σ=some (.bool (decide (0≤a∧a<(m.wds.length:Int))),σ):=by
  have hnt:=h.nt
  have hwl:=h.wl
  rw[d_ref02_Heap_word_eq,b_ref02_Heap_word]
  have w:w64 (((m.bls.length:Nat):Int)*64)=((m.wds.length:Nat):Int):=by rw[w64_in (by unfold inI; omega)]; omega
  by_cases h0:0≤a
  · rw[decide_eq_true (show a≥0 from h0)]
    simp only[cond_true,Option.bind_some,Nat.zero_add,Nat.add_zero,h.at_.ld0,h.bn,w,h0,true_and]
  · rw[decide_eq_false (show ¬ a≥0 from h0),decide_eq_false (fun hh=>h0 hh.1)]
    simp only[cond_false,Option.bind_some]
theorem rWord_to (k:Nat) (hk:5000≤k) (h:RG σ i m t) (a:Int):∃ τ,d_ref02_Heap_Word (k+4) (rptr i) a σ=some (if 0≤a∧a<(m.wds.length:Int) then .tuple #[.int .i64 (m.wds.getD a.toNat 0),.int .i64 0] else .tuple #[.int .i64 0,.int .i64 1],σ++τ):=by
  have hnt:=h.nt
  have hwl:=h.wl
  rw[d_ref02_Heap_Word_eq,b_ref02_Heap_Word]
  simp only[rMade_g (k+2) h,rword_to (k+2) h a,Option.bind_some,toB_bool,Bool.not_true,cond_false]
  by_cases hr:0≤a∧a<(m.wds.length:Int)
  rotate_left
  · rw[decide_eq_false hr,if_neg hr]
    exact ⟨[],by simp only[Bool.not_false,cond_true,List.append_nil]⟩
  obtain ⟨n,rfl⟩:∃ n:Nat,a=(n:Int):=⟨a.toNat,by omega⟩
  rw[decide_eq_true hr,if_pos hr,Int.toNat_natCast]
  obtain ⟨τ,e⟩:=rFind_to k hk h (n:Int)
  have hfi:findI m (n:Int)=findM m n:=by unfold findI; rw[if_pos hr,Int.toNat_natCast]
  rw[hfi] at e
  cases hf:findM m n with
  | none=>
    rw[hf] at e
    refine ⟨τ, ?_⟩
    rw[h.inv2.zero n (fun j hs h1 h2=>by
      have:=h.inv.use hs
      have:=h.inv.find_some hs h1 (by omega)
      rw[hf] at this; cases this)]
    simp only[Bool.not_true,cond_false,e,Option.bind_some,r_ii_eq,ne4,cond_true]
  | some j=>
    rw[hf] at e
    obtain ⟨hs,_,f1,f2⟩:=findM_spec hf
    have hz:=h.inv.size hs
    obtain ⟨v1,r1,r2,r3,r4,r5,r6,_⟩:=word1 h.inv hs
    have hg:=h.app τ
    obtain ⟨y,j',b,p,F⟩:=hg.found (hasM_start hs)
    have ej:j'=j:=by have:=F.e; omega
    subst ej
    have hix:=rIndex_g (k+1) (by omega) hg ((2*j':Nat):Int)
    have hx:=F.xl
    have rl:p.1.2.1=(refsAt m j').toNat:=by rw[F.rs.1]; exact segL_length _ _ _
    have dl:p.2.2.1=(dataAt m j').toNat:=by rw[F.ds.1]; exact segL_length _ _ _
    obtain ⟨B,hB⟩:∃ B,AObj.cells (roCells (roOf m j') p) ty_dustcartref02_Object true=B:=⟨_,rfl⟩
    have st:stN (σ++τ++[AObj.cells [.int .i64 0,.int .i64 0,.int .i64 0,.int .i64 0,.int .i64 0,.slice none 0 0,.slice none 0 0,.bool false] ty_dustcartref02_Object true]) (σ++τ).length 0 [.int .i64 (roOf m j').addr,.int .i64 (roOf m j').id,.int .i64 (roOf m j').r,.int .i64 (roOf m j').d,.int .i64 (roOf m j').k,.slice p.1.1 p.1.2.1 p.1.2.2,.slice p.2.1 p.2.2.1 p.2.2.2,.bool (roOf m j').pin]=some (σ++τ++[B]):=by
      rw[stN_box8,← hB]; rfl
    have lb:∀ (o:Nat),ldI .i64 (σ++τ++[B]) (σ++τ).length o=((roCells (roOf m j') p)[o]?).bind (toI .i64):=fun o=>by rw[← hB]; simp[ldI,ld1]
    have ls:∀ (o:Nat),ldS (σ++τ++[B]) (σ++τ).length o=((roCells (roOf m j') p)[o]?).bind toS:=fun o=>by rw[← hB]; simp[ldS,ld1]
    have c1:((roCells (roOf m j') p)[1]?).bind (toI .i64)=some (m.wds.getD (2*j') 0):=rfl
    have c2:((roCells (roOf m j') p)[2]?).bind (toI .i64)=some (refsAt m j'):=rfl
    have c3:((roCells (roOf m j') p)[3]?).bind (toI .i64)=some (dataAt m j'):=rfl
    have c4:((roCells (roOf m j') p)[4]?).bind (toI .i64)=some (kindAt m j'):=rfl
    have c5:((roCells (roOf m j') p)[5]?).bind toS=some (p.1.1,(refsAt m j').toNat,p.1.2.2):=by rw[← rl]; rfl
    have c6:((roCells (roOf m j') p)[6]?).bind toS=some (p.2.1,(dataAt m j').toNat,p.2.2.2):=by rw[← dl]; rfl
    obtain ⟨rn,hrn⟩:∃ rn:Nat,refsAt m j'=(rn:Int):=⟨(refsAt m j').toNat,by omega⟩
    obtain ⟨dn,hdn⟩:∃ dn:Nat,dataAt m j'=(dn:Int):=⟨(dataAt m j').toNat,by omega⟩
    have qx:(0≤(y:Int)∧(y:Int)<((t.ob.length:Nat):Int))=True:=eq_true (by omega)
    obtain ⟨q,hq⟩:∃ q,n=2*j'+q:=⟨n-2*j',by omega⟩
    subst hq
    have w0:w64 (((2*j'+q:Nat):Int)-((2*j':Nat):Int))=(q:Int):=by rw[w64_in (by unfold inI; omega)]; omega
    have w2:w64 (2+((rn:Nat):Int))=((2+rn:Nat):Int):=by rw[w64_in (by unfold inI; omega)]; omega
    have w3:w64 (((2+rn:Nat):Int)+((dn:Nat):Int))=((2+rn+dn:Nat):Int):=by rw[w64_in (by unfold inI; omega)]; omega
    refine ⟨τ++[B], ?_⟩
    simp only[Bool.not_true,cond_false,e,Option.bind_some,r_ii_eq,bne_self_eq_false,Nat.zero_add,Nat.add_zero,Nat.add_assoc,Nat.reduceAdd,hg.at_.ld1',hix,toI_int,F.idx,qx,if_true,F.os,Int.toNat_natCast,F.ld.l0,F.ld.l1,F.ld.l2,F.ld.l3,F.ld.l4,F.ld.l5,F.ld.l6,F.ld.l7,allocK,st,w0,lb,ls,c1,c2,c3,c4,c5,c6]
    rw[← List.append_assoc]
    by_cases q0:q=0
    · subst q0
      simp only[show ((((0:Nat):Int)) == 0)=true from rfl,cond_true,Nat.add_zero]
    rw[show (((q:Nat):Int) == 0)=false from beq_eq_false_iff_ne.2 (by omega)]
    by_cases q1:q=1
    · subst q1
      have wk:w64 ((w64 (refsAt m j'+w64 (16*dataAt m j')))+w64 (4096*kindAt m j'))=m.wds.getD (2*j'+1) 0:=by
        rw[w64_in (n:=16*dataAt m j') (by unfold inI; omega),w64_in (n:=4096*kindAt m j') (by unfold inI; omega),w64_in (n:=refsAt m j'+16*dataAt m j') (by unfold inI; omega),w64_in (by unfold inI; omega),v1]
      simp only[show ((((1:Nat):Int)) == 1)=true from rfl,cond_true,cond_false,wk]
    rw[show (((q:Nat):Int) == 1)=false from beq_eq_false_iff_ne.2 (by omega)]
    have wq:w64 ((q:Int)-2)=((q-2:Nat):Int):=by rw[w64_in (by unfold inI; omega)]; omega
    have rt:(refsAt m j').toNat=rn:=by omega
    have dt:(dataAt m j').toNat=dn:=by omega
    simp only[cond_false,rt,dt,w2,w3,wq]
    by_cases q2:q<2+rn
    · obtain ⟨b2,e2,l2,_⟩:=(F.rs.app [B]).ldx (x:=q-2) (by show _<(segL m _ _).length; rw[segL_length]; omega)
      have qy:(0≤((q-2:Nat):Int)∧((q-2:Nat):Int)<((rn:Nat):Int))=True:=eq_true (by omega)
      rw[decide_eq_true (show (q:Int)<((2+rn:Nat):Int) by omega)]
      simp only[cond_true,qy,if_true,e2,Option.bind_some,Int.toNat_natCast,Nat.zero_add,Nat.mul_one,l2]
      rw[show (roOf m j').refs.getD (q-2) 0=m.wds.getD (2*j'+2+(q-2)) 0 from segL_getD m (by omega),show 2*j'+2+(q-2)=2*j'+q from by omega]
    rw[decide_eq_false (show ¬ (q:Int)<((2+rn:Nat):Int) by omega)]
    by_cases q3:q<2+rn+dn
    · obtain ⟨b2,e2,l2,_⟩:=(F.ds.app [B]).ldx (x:=q-2-rn) (by show _<(segL m _ _).length; rw[segL_length]; omega)
      have wq':w64 (((q-2:Nat):Int)-((rn:Nat):Int))=((q-2-rn:Nat):Int):=by rw[w64_in (by unfold inI; omega)]; omega
      have qy:(0≤((q-2-rn:Nat):Int)∧((q-2-rn:Nat):Int)<((dn:Nat):Int))=True:=eq_true (by omega)
      rw[decide_eq_true (show (q:Int)<((2+rn+dn:Nat):Int) by omega)]
      simp only[cond_true,cond_false,wq',qy,if_true,e2,Option.bind_some,Int.toNat_natCast,Nat.zero_add,Nat.mul_one,l2]
      rw[show (roOf m j').data.getD (q-2-rn) 0=m.wds.getD (2*j'+2+(refsAt m j').toNat+(q-2-rn)) 0 from segL_getD m (by omega),show 2*j'+2+(refsAt m j').toNat+(q-2-rn)=2*j'+q from by omega]
    · rw[decide_eq_false (show ¬ (q:Int)<((2+rn+dn:Nat):Int) by omega)]
      simp only[cond_false]
      rw[h.inv2.zero (2*j'+q) (fun j hj h1 h2=>by
        have u:=h.inv.use hj
        have:j=j':=by
          have g1:=h.inv.find_some hj h1 (by omega)
          rw[hf] at g1; cases g1; rfl
        subst this
        omega)]
theorem rGaps_l0_to (k:Nat) (hk:5000≤k) (h:RG σ i m t) (L:List Nat) (hL:∀ j ∈ L,Start m j) (hLl:L.length≤2048) {lo':Nat} (s:SlV) (hs:IntsAt lo' σ s (addrs L)):∀ (n x f a:Nat) (τ:AMem) (o:SlV) (R:List (Nat × Nat)),SlAt ty_api_Run 2 (σ++τ) o R.length (runRow R)→(∀ q,o.1=some q→σ.length≤q.block)→R.length≤x→a≤5000→x+n=L.length→n<f →
    ∃ τ' o',d_ref02_Heap_Gaps_l0 (k+3) f (rptr i) s.1 s.2.1 s.2.2 (o.1,o.2.1,o.2.2) (a:Int) (x:Int) (σ++τ)=some (.exit 0,[.slice o'.1 o'.2.1 o'.2.2,.int .i64 ((gapsT m (L.drop x) a).2:Int)],σ++τ')∧SlAt ty_api_Run 2 (σ++τ') o' (R++(gapsT m (L.drop x) a).1).length (runRow (R++(gapsT m (L.drop x) a).1))∧(∀ q,o'.1=some q→σ.length≤q.block)∧(gapsT m (L.drop x) a).2≤5000∧(R++(gapsT m (L.drop x) a).1).length≤L.length
  | 0,x,0,a,τ,o,R,hR,ho,hr,ha,hx,hf=>by omega
  | 0,x,f+1,a,τ,o,R,hR,ho,hr,ha,hx,hf=>by
    have al:(addrs L).length=L.length:=by simp[addrs]
    have sl:s.2.1=L.length:=by rw[← al]; exact hs.sl.len
    rw[d_ref02_Heap_Gaps_l0_eq,b_ref02_Heap_Gaps_l0,List.drop_eq_nil_of_le (by omega)]
    have q:decide ((x:Int)<((s.2.1:Nat):Int))=false:=decide_eq_false (by omega)
    exact ⟨τ,o,by simp only[q,cond_false,gapsT],by simpa [gapsT] using hR,ho,ha,by simp[gapsT]; omega⟩
  | n+1,x,0,a,τ,o,R,hR,ho,hr,ha,hx,hf=>by omega
  | n+1,x,f+1,a,τ,o,R,hR,ho,hr,ha,hx,hf=>by
    have al:(addrs L).length=L.length:=by simp[addrs]
    have hxl:x<L.length:=by omega
    have hst:=hL _ (List.getElem_mem hxl)
    have hfit:=h.inv.fit _ hst
    have hz:=h.inv.size hst
    have hnt:=h.nt
    have hwl:=h.wl
    have hsj:=hst.1
    obtain ⟨b1,e1,hb1,c1,ldA⟩:=ints_at hs (x:=x) (by omega)
    rw[addrs_getD L hxl] at ldA
    have hbl:=getElem?_lt c1
    have ldA':∀ τ1:AMem,ldI .i64 (σ++τ1) b1 x=some ((2*L[x]:Nat):Int):=fun τ1=>by
      rw[← ldA]; simp only[ldI,ld1,List.getElem?_append_left hbl]
    have eT:gapsT m (L.drop x) a=(gap1 a (2*L[x])++(gapsT m (L.drop (x+1)) (2*L[x]+sz m L[x])).1,(gapsT m (L.drop (x+1)) (2*L[x]+sz m L[x])).2):=by
      rw[List.drop_eq_getElem_cons hxl]; rfl
    have qx:(0≤(x:Int)∧(x:Int)<((L.length:Nat):Int))=True:=eq_true (by omega)
    have q0:decide ((x:Int)<((L.length:Nat):Int))=true:=decide_eq_true (by omega)
    have w1:w64 ((x:Int)+1)=((x+1:Nat):Int):=w64_in (by unfold inI; omega)
    have w2:w64 (((2*L[x]:Nat):Int)+(sz m L[x]:Int))=((2*L[x]+sz m L[x]:Nat):Int):=by rw[w64_in (by unfold inI; omega)]; omega
    have hgl:(gap1 a (2*L[x])).length≤1:=by unfold gap1; split <;> simp
    have tail:∀ (τ1:AMem) (o1:SlV),SlAt ty_api_Run 2 (σ++τ1) o1 (R++gap1 a (2*L[x])).length (runRow (R++gap1 a (2*L[x])))→(∀ q,o1.1=some q→σ.length≤q.block) →
        ∃ (y b2:Nat) (e3:i.os.1=some ⟨b2,0,none⟩) (e4:y<t.ob.length) (e5:d_ref02_Heap_Index (k+3) (rptr i) ((2*L[x]:Nat):Int) (σ++τ1)=some (.int .i64 (y:Int),σ++τ1)) (e6:ldI .i64 (σ++τ1) b2 (y*8+2)=some (refsAt m L[x])) (e7:ldI .i64 (σ++τ1) b2 (y*8+3)=some (dataAt m L[x])) (e8:ldI .i64 (σ++τ1) b2 (y*8+4)=some (kindAt m L[x])) (τ2:AMem) (e9:d_ref02_Words (k+3) (refsAt m L[x]) (dataAt m L[x]) (kindAt m L[x]) (σ++τ1)=some (.int .i64 (sz m L[x]:Int),σ++τ2)) (τ':AMem) (o':SlV),
          d_ref02_Heap_Gaps_l0 (k+3) f (rptr i) s.1 s.2.1 s.2.2 (o1.1,o1.2.1,o1.2.2) ((2*L[x]+sz m L[x]:Nat):Int) ((x+1:Nat):Int) (σ++τ2)=some (.exit 0,[.slice o'.1 o'.2.1 o'.2.2,.int .i64 ((gapsT m (L.drop x) a).2:Int)],σ++τ')∧SlAt ty_api_Run 2 (σ++τ') o' (R++(gapsT m (L.drop x) a).1).length (runRow (R++(gapsT m (L.drop x) a).1))∧(∀ q,o'.1=some q→σ.length≤q.block)∧(gapsT m (L.drop x) a).2≤5000∧(R++(gapsT m (L.drop x) a).1).length≤L.length:=by
      intro τ1 o1 s1 n1
      have hg:=h.app τ1
      obtain ⟨y,j',b2,p,F⟩:=hg.found (hasM_start hst)
      have ej:j'=L[x]:=by have:=F.e; omega
      subst ej
      obtain ⟨τ2,e9⟩:=ref_Words_to (k+1) (refsAt m L[x]) (dataAt m L[x]) (kindAt m L[x]) (σ++τ1)
      rw[(word1 h.inv hst).2.2.2.2.2.2.2,List.append_assoc] at e9
      have s2:SlAt ty_api_Run 2 (σ++(τ1++τ2)) o1 (R++gap1 a (2*L[x])).length (runRow (R++gap1 a (2*L[x]))):=by rw[← List.append_assoc]; exact s1.app τ2
      obtain ⟨τ',o',r1,r2,r3,r4,r5⟩:=rGaps_l0_to k hk h L hL hLl s hs n (x+1) f (2*L[x]+sz m L[x]) (τ1++τ2) o1 (R++gap1 a (2*L[x])) s2 n1 (by rw[List.length_append]; omega) (by omega) (by omega) (by omega)
      rw[eT]
      rw[List.append_assoc] at r2 r5
      exact ⟨y,b2,F.os,F.xl,by rw[← F.idx]; exact rIndex_g (k+1) (by omega) hg _,F.ld.l2,F.ld.l3,F.ld.l4,τ1++τ2,e9,τ',o',r1,r2,r3,r4,r5⟩
    subst e1
    rw[d_ref02_Heap_Gaps_l0_eq,b_ref02_Heap_Gaps_l0]
    simp only[al] at *
    by_cases hc:a<2*L[x]
    · obtain ⟨o1,τ1,ea,s1,n1⟩:=push_behind sz46 by46 zz46 rfl rfl (by decide) (by decide) (by decide) σ τ o R.length (runRow R) 1 1 (runRow [(a,2*L[x]-a)]) ty_api_Run (by omega) (by decide) rfl hR ho
      have ea':appendD P ty_api_Run (o.1,o.2.1,o.2.2) (some ⟨(σ++τ).length,0,none⟩,1,1) (σ++τ++[AObj.cells [.int .i64 (a:Int),.int .i64 ((2*L[x]-a:Nat):Int)] ty_api_Run true])=some (o1,σ++τ1):=ea
      have gl:gap1 a (2*L[x])=[(a,2*L[x]-a)]:=by unfold gap1; rw[if_pos hc]
      obtain ⟨y,b2,e3,e4,e5,e6,e7,e8,τ2,e9,τ',o',r1,r2,r3,r4,r5⟩:=tail τ1 o1 (by rw[gl,runRow_app,List.length_append]; exact s1) n1
      refine ⟨τ',o', ?_,r2,r3,r4,r5⟩
      have w:w64 (((2*L[x]:Nat):Int)-(a:Int))=((2*L[x]-a:Nat):Int):=by rw[w64_in (by unfold inI; omega)]; omega
      have qy:(0≤(y:Int)∧(y:Int)<((t.ob.length:Nat):Int))=True:=eq_true (by omega)
      simp only[q0,cond_true,qx,if_true,Option.bind_some,Nat.zero_add,Nat.add_zero,Nat.add_assoc,Nat.reduceAdd,Int.toNat_natCast,Nat.mul_one,ldA',decide_eq_true (show ((2*L[x]:Nat):Int)>(a:Int) by omega),allocK,w,ea',u_l_eq,(h.app τ1).at_.ld1',e5,toI_int,qy,e3,e6,e7,e8,e9,w2,w1]
      exact r1
    · have gl:gap1 a (2*L[x])=[]:=by unfold gap1; rw[if_neg hc]
      obtain ⟨y,b2,e3,e4,e5,e6,e7,e8,τ2,e9,τ',o',r1,r2,r3,r4,r5⟩:=tail τ o (by rw[gl,List.append_nil]; exact hR) ho
      refine ⟨τ',o', ?_,r2,r3,r4,r5⟩
      have qy:(0≤(y:Int)∧(y:Int)<((t.ob.length:Nat):Int))=True:=eq_true (by omega)
      simp only[q0,cond_true,cond_false,qx,if_true,Option.bind_some,Nat.zero_add,Nat.add_zero,Nat.add_assoc,Nat.reduceAdd,Int.toNat_natCast,Nat.mul_one,ldA',decide_eq_false (show ¬ ((2*L[x]:Nat):Int)>(a:Int) by omega),u_l_eq,(h.app τ).at_.ld1',e5,toI_int,qy,e3,e6,e7,e8,e9,w2,w1]
      exact r1
def gapsI (m:HM) (b:Int):List (Nat × Nat):=if stateI m b=1 then gapsB m b.toNat else []
theorem stateI_in {b:Int} (h:stateI m b=1):∃ n:Nat,b=(n:Int)∧n<m.bls.length∧(m.bls.getD n (0,0)).1=1:=by
  unfold stateI at h
  split at h
  · rename_i hb
    refine ⟨b.toNat,by omega,by omega,h⟩
  · cases h
theorem gapsI_len (m:HM) (b:Int):(gapsI m b).length≤33:=by
  have aux:∀ (L:List Nat) (a:Nat),(gapsT m L a).1.length≤L.length:=by
    intro L
    induction L with
    | nil=>intro a; exact Nat.le_refl _
    | cons j L ih=>
      intro a
      have:=ih (2*j+sz m j)
      have:(gap1 a (2*j)).length≤1:=by unfold gap1; split <;> simp
      rw[gapsT,List.length_append,List.length_cons]; omega
  unfold gapsI
  split
  · unfold gapsB
    have:=aux (starts m (32*b.toNat) 32) (64*b.toNat)
    have:=starts_len m (32*b.toNat) 32
    have:(gap1 (gapsT m (starts m (32*b.toNat) 32) (64*b.toNat)).2 (64*b.toNat+64)).length≤1:=by unfold gap1; split <;> simp
    rw[List.length_append]; omega
  · simp
theorem rGaps_to (k:Nat) (hk:5000≤k) (h:RG σ i m t) (b:Int):∃ τ s,d_ref02_Heap_Gaps (k+4) (rptr i) b σ=some (.slice s.1 s.2.1 s.2.2,σ++τ)∧SlAt ty_api_Run 2 (σ++τ) s (gapsI m b).length (runRow (gapsI m b)) ∧ ∀ a,s.1=some a→σ.length≤a.block:=by
  have hnt:=h.nt
  have hwl:=h.wl
  rw[d_ref02_Heap_Gaps_eq,b_ref02_Heap_Gaps]
  have eS:d_ref02_Heap_State (k+3) (rptr i) b σ=_:=rState_to (k+1) h b
  simp only[eS,Option.bind_some,toI_int]
  unfold gapsI
  by_cases hc:stateI m b=1
  rotate_left
  · rw[if_neg hc,bne_iff_ne.2 hc]
    exact ⟨[],(none,0,0),by simp only[cond_true,List.append_nil],SlAt.nil _ _ _,by intro a ha; cases ha⟩
  rw[if_pos hc,hc]
  obtain ⟨n,rfl,hn,hst⟩:=stateI_in hc
  obtain ⟨τ1,s,e1,i1⟩:=rObjects_to (k+1) (by omega) h (n:Int)
  have eO:objsI m (n:Int)=starts m (32*n) 32:=by unfold objsI; rw[if_pos (by omega),Int.toNat_natCast]
  rw[eO] at i1
  have hg:=h.app τ1
  have hL:∀ j ∈ starts m (32*n) 32,Start m j:=by
    intro j hj
    obtain ⟨a,b',c⟩:=mem_starts.1 hj
    exact ⟨by omega,c⟩
  have hLl:=starts_len m (32*n) 32
  obtain ⟨τ2,o2,e2,s2,n2,m4,m5⟩:=rGaps_l0_to k hk hg _ hL (by omega) s i1 (starts m (32*n) 32).length 0 (k+3) (64*n) [] (none,0,0) [] (SlAt.nil _ _ _) (by intro a ha; cases ha) (Nat.zero_le _) (by omega) (by omega) (by omega)
  rw[List.drop_zero,List.nil_append] at s2 m5
  rw[List.drop_zero,List.append_nil] at e2
  rw[List.drop_zero] at m4
  have e2':d_ref02_Heap_Gaps_l0 (k+3) (k+3) (rptr i) s.1 s.2.1 s.2.2 (none,0,0) ((64*n:Nat):Int) 0 (σ++τ1)=_:=e2
  have w1:w64 ((n:Int)*64)=((64*n:Nat):Int):=by rw[w64_in (by unfold inI; omega)]; omega
  have w2:w64 ((n:Int)+1)=((n+1:Nat):Int):=by rw[w64_in (by unfold inI; omega)]; omega
  have w3:w64 (((n+1:Nat):Int)*64)=((64*n+64:Nat):Int):=by rw[w64_in (by unfold inI; omega)]; omega
  rw[Int.toNat_natCast]
  unfold gapsB
  generalize hG:gapsT m (starts m (32*n) 32) (64*n)=G at e2' s2 m4 m5
  by_cases hq:G.2<64*n+64
  · obtain ⟨o3,τ3,ea,s3,n3⟩:=push_behind sz46 by46 zz46 rfl rfl (by decide) (by decide) (by decide) (σ++τ1) τ2 o2 G.1.length (runRow G.1) 1 1 (runRow [(G.2,64*n+64-G.2)]) ty_api_Run (by omega) (by decide) rfl s2 n2
    have ea':appendD P ty_api_Run (o2.1,o2.2.1,o2.2.2) (some ⟨(σ++τ1++τ2).length,0,none⟩,1,1) (σ++τ1++τ2++[AObj.cells [.int .i64 (G.2:Int),.int .i64 ((64*n+64-G.2:Nat):Int)] ty_api_Run true])=some (o3,σ++τ1++τ3):=ea
    have gl:gap1 G.2 (64*n+64)=[(G.2,64*n+64-G.2)]:=by unfold gap1; rw[if_pos hq]
    have w:w64 (((64*n+64:Nat):Int)-(G.2:Int))=((64*n+64-G.2:Nat):Int):=by rw[w64_in (by unfold inI; omega)]; omega
    refine ⟨τ1++τ3,o3, ?_, ?_,fun a ha=>by have:=n3 a ha; simp at this; omega⟩
    · simp only[bne_self_eq_false,cond_false,e1,Option.bind_some,toS,w1,e2',if_true,u_li_eq,w2,w3,decide_eq_true (show (G.2:Int)<((64*n+64:Nat):Int) by omega),cond_true,allocK,w,ea',u_l_eq]
      rw[List.append_assoc]
    · rw[gl,runRow_app,List.length_append,← List.append_assoc]; exact s3
  · have gl:gap1 G.2 (64*n+64)=[]:=by unfold gap1; rw[if_neg hq]
    refine ⟨τ1++τ2,o2, ?_, ?_,fun a ha=>by have:=n2 a ha; simp at this; omega⟩
    · simp only[bne_self_eq_false,cond_false,e1,Option.bind_some,toS,w1,e2',if_true,u_li_eq,w2,w3,decide_eq_false (show ¬ (G.2:Int)<((64*n+64:Nat):Int) by omega),cond_false,u_l_eq]
      rw[List.append_assoc]
    · rw[gl,List.append_nil,← List.append_assoc]; exact s2
def linesN (m:HM) (b n:Nat):List Bool:=(List.range n).map fun x=>anyF m (64*b+8*x) 8
theorem linesN_succ (m:HM) (b n:Nat):linesN m b (n+1)=linesN m b n++[anyF m (64*b+8*n) 8]:=by
  unfold linesN; rw[List.range_succ,List.map_append]; rfl
theorem linesN_len (m:HM) (b n:Nat):(linesN m b n).length=n:=by unfold linesN; simp
theorem boRow_app (l l':List Bool):boRow (l++l')=boRow l++boRow l':=by unfold boRow; rw[List.map_append]
theorem szBo:szOf P ty_bool=some 1:=by kernel_rfl
theorem byBo:bytesOf P ty_bool=some 1:=by kernel_rfl
theorem zzBo:zerosOf P ty_bool=some (.bool false):=by kernel_rfl
def linesI (m:HM) (b:Int):List Bool:=if stateI m b=1 then linesN m b.toNat 8 else []
theorem rLines_l1_to (k:Nat) (hk:5000≤k) (h:RG σ i m t) {b x:Nat} (hb:b<m.bls.length) (hx:x<8):∀ (n y f:Nat) (is:Bool) (τ:AMem),y+n=8→n<f →
    ∃ τ',d_ref02_Heap_Lines_l1 (k+3) f (rptr i) (b:Int) (x:Int) is (y:Int) (σ++τ)=some (.exit 2,[.bool (is || anyF m (64*b+8*x+y) n)],σ++τ')
  | 0,y,0,is,τ,hy,hf=>by omega
  | 0,y,f+1,is,τ,hy,hf=>by
    rw[d_ref02_Heap_Lines_l1_eq,b_ref02_Heap_Lines_l1,anyF,Bool.or_false]
    exact ⟨τ,by simp only[decide_eq_false (show ¬ (y:Int)<8 by omega),cond_false]⟩
  | n+1,y,0,is,τ,hy,hf=>by omega
  | n+1,y,f+1,is,τ,hy,hf=>by
    have hnt:=h.nt
    have hwl:=h.wl
    have hg:=h.app τ
    obtain ⟨τ1,e1⟩:=rFind_to k hk hg ((64*b+8*x+y:Nat):Int)
    have w1:w64 ((b:Int)*64)=((64*b:Nat):Int):=by rw[w64_in (by unfold inI; omega)]; omega
    have w2:w64 ((x:Int)*8)=((8*x:Nat):Int):=by rw[w64_in (by unfold inI; omega)]; omega
    have w3:w64 (((64*b:Nat):Int)+((8*x:Nat):Int))=((64*b+8*x:Nat):Int):=by rw[w64_in (by unfold inI; omega)]; omega
    have w4:w64 (((64*b+8*x:Nat):Int)+(y:Int))=((64*b+8*x+y:Nat):Int):=by rw[w64_in (by unfold inI; omega)]; omega
    have w5:w64 ((y:Int)+1)=((y+1:Nat):Int):=w64_in (by unfold inI; omega)
    have hfi:findI m ((64*b+8*x+y:Nat):Int)=findM m (64*b+8*x+y):=by unfold findI; rw[if_pos (by omega),Int.toNat_natCast]
    rw[hfi,List.append_assoc] at e1
    obtain ⟨τ2,e2⟩:=rLines_l1_to k hk h hb hx n (y+1) f (is || (findM m (64*b+8*x+y)).isSome) (τ++τ1) (by omega) (by omega)
    refine ⟨τ2, ?_⟩
    rw[show 64*b+8*x+(y+1)=64*b+8*x+y+1 from by omega] at e2
    rw[d_ref02_Heap_Lines_l1_eq,b_ref02_Heap_Lines_l1,anyF,← Bool.or_assoc]
    simp only[decide_eq_true (show (y:Int)<8 by omega),cond_true,w1,w2,w3,w4,w5,e1,Option.bind_some]
    rw[← e2]
    cases findM m (64*b+8*x+y) with
    | none=>cases is <;> simp only[r_ii_eq,Option.bind_some,cond_true,cond_false,show ((4:Int) == 0)=false from rfl,Option.isSome_none,Bool.or_false,Bool.or_self]
    | some j=>cases is <;> simp only[r_ii_eq,Option.bind_some,cond_true,cond_false,beq_self_eq_true,Option.isSome_some,Bool.or_true,Bool.or_self]
theorem rLines_l0_to (k:Nat) (hk:5000≤k) (h:RG σ i m t) {b:Nat} (hb:b<m.bls.length):∀ (n x f:Nat) (τ:AMem) (o:SlV),SlAt ty_bool 1 (σ++τ) o x (boRow (linesN m b x))→(∀ q,o.1=some q→σ.length≤q.block)→x+n=8→n<f →
    ∃ τ' o',d_ref02_Heap_Lines_l0 (k+3) f (rptr i) (b:Int) (o.1,o.2.1,o.2.2) (x:Int) (σ++τ)=some (.exit 0,[.slice o'.1 o'.2.1 o'.2.2],σ++τ')∧SlAt ty_bool 1 (σ++τ') o' 8 (boRow (linesN m b 8))∧(∀ q,o'.1=some q→σ.length≤q.block)
  | 0,x,0,τ,o,hR,ho,hx,hf=>by omega
  | 0,x,f+1,τ,o,hR,ho,hx,hf=>by
    have:x=8:=by omega
    subst this
    rw[d_ref02_Heap_Lines_l0_eq,b_ref02_Heap_Lines_l0]
    exact ⟨τ,o,by simp only[show decide (((8:Nat):Int)<8)=false from rfl,cond_false],hR,ho⟩
  | n+1,x,0,τ,o,hR,ho,hx,hf=>by omega
  | n+1,x,f+1,τ,o,hR,ho,hx,hf=>by
    obtain ⟨τ1,e1⟩:=rLines_l1_to k hk (h.app τ) hb (show x<8 by omega) 8 0 (k+3) false [] (by omega) (by omega)
    rw[Nat.add_zero,Bool.false_or,List.append_nil,List.append_assoc] at e1
    have e1':d_ref02_Heap_Lines_l1 (k+3) (k+3) (rptr i) (b:Int) (x:Int) false 0 (σ++τ)=_:=e1
    have hR1:SlAt ty_bool 1 (σ++(τ++τ1)) o x (boRow (linesN m b x)):=by rw[← List.append_assoc]; exact hR.app τ1
    obtain ⟨o2,τ2,ea,s2,n2⟩:=push_behind szBo byBo zzBo rfl rfl (by decide) (by decide) (by decide) σ (τ++τ1) o x (boRow (linesN m b x)) 1 1 (boRow [anyF m (64*b+8*x) 8]) ty_bool (by omega) (by decide) rfl hR1 ho
    have ea':appendD P ty_bool (o.1,o.2.1,o.2.2) (some ⟨(σ++(τ++τ1)).length,0,none⟩,1,1) (σ++(τ++τ1)++[AObj.cells [.bool (anyF m (64*b+8*x) 8)] ty_bool true])=some (o2,σ++τ2):=ea
    rw[← boRow_app,← linesN_succ] at s2
    obtain ⟨τ3,o3,e3,s3,n3⟩:=rLines_l0_to k hk h hb n (x+1) f τ2 o2 s2 n2 (by omega) (by omega)
    refine ⟨τ3,o3, ?_,s3,n3⟩
    have w5:w64 ((x:Int)+1)=((x+1:Nat):Int):=w64_in (by unfold inI; omega)
    rw[d_ref02_Heap_Lines_l0_eq,b_ref02_Heap_Lines_l0]
    simp only[decide_eq_true (show (x:Int)<8 by omega),cond_true,e1',Option.bind_some,if_true,u_t_eq,allocK,Nat.add_zero,ea',w5]
    exact e3
theorem rLines_to (k:Nat) (hk:5000≤k) (h:RG σ i m t) (b:Int):∃ τ s,d_ref02_Heap_Lines (k+4) (rptr i) b σ=some (.slice s.1 s.2.1 s.2.2,σ++τ)∧SlAt ty_bool 1 (σ++τ) s (linesI m b).length (boRow (linesI m b)) ∧ ∀ a,s.1=some a→σ.length≤a.block:=by
  rw[d_ref02_Heap_Lines_eq,b_ref02_Heap_Lines]
  have eS:d_ref02_Heap_State (k+3) (rptr i) b σ=_:=rState_to (k+1) h b
  simp only[eS,Option.bind_some,toI_int]
  unfold linesI
  by_cases hc:stateI m b=1
  rotate_left
  · rw[if_neg hc,bne_iff_ne.2 hc]
    exact ⟨[],(none,0,0),by simp only[cond_true,List.append_nil],SlAt.nil _ _ _,by intro a ha; cases ha⟩
  rw[if_pos hc,hc]
  obtain ⟨n,rfl,hn,hst⟩:=stateI_in hc
  obtain ⟨τ2,o2,e2,s2,n2⟩:=rLines_l0_to k hk h hn 8 0 (k+3) [] (none,0,0) (SlAt.nil _ _ _) (by intro a ha; cases ha) (by omega) (by omega)
  rw[List.append_nil] at e2
  have e2':d_ref02_Heap_Lines_l0 (k+3) (k+3) (rptr i) (n:Int) (none,0,0) 0 σ=_:=e2
  refine ⟨τ2,o2, ?_,by rw[Int.toNat_natCast,linesN_len]; exact s2,n2⟩
  simp only[bne_self_eq_false,cond_false,e2',Option.bind_some,if_true,u_l_eq]
end
section
open Go Go.AX
noncomputable local instance qRW:Quiet:=fullQuiet
local instance nRW:Kn:=⟨true⟩
variable {σ:AMem} {m:HM} {t:RM} {i:RI}
def omL (om:List (SlV × SlV)):List Nat:=om.flatMap fun p=>hs p.1++hs p.2
theorem hs_nodup (s:SlV):(hs s).Nodup:=by
  unfold hs
  cases s.1 <;> simp
theorem RI.mem_l {j:Nat}:j ∈ i.l↔j=i.hb∨j ∈ hs i.bs∨j ∈ hs i.os∨j ∈ hs i.fs∨j ∈ omL i.om:=by
  unfold RI.l omL
  simp only[List.mem_cons,List.mem_append]
structure Sep (i:RI):Prop where
  hA:i.hb ∉ hs i.bs
  hB:i.hb ∉ hs i.os
  hC:i.hb ∉ hs i.fs
  hD:i.hb ∉ omL i.om
  AB:∀ a ∈ hs i.bs,a ∉ hs i.os
  AC:∀ a ∈ hs i.bs,a ∉ hs i.fs
  AD:∀ a ∈ hs i.bs,a ∉ omL i.om
  BC:∀ a ∈ hs i.os,a ∉ hs i.fs
  BD:∀ a ∈ hs i.os,a ∉ omL i.om
  CD:∀ a ∈ hs i.fs,a ∉ omL i.om
  D:(omL i.om).Nodup
theorem Sep.of (h:i.l.Nodup):Sep i:=by
  have h:(i.hb::(hs i.bs++(hs i.os++(hs i.fs++omL i.om)))).Nodup:=h
  obtain ⟨h1,h2⟩:=List.nodup_cons.1 h
  simp only[List.mem_append,not_or] at h1
  obtain ⟨_,h3,h4⟩:=List.nodup_append.1 h2
  obtain ⟨_,h5,h6⟩:=List.nodup_append.1 h3
  obtain ⟨_,h7,h8⟩:=List.nodup_append.1 h5
  exact ⟨h1.1,h1.2.1,h1.2.2.1,h1.2.2.2,fun a ha hb=>h4 a ha a (List.mem_append.2 (.inl hb)) rfl,fun a ha hb=>h4 a ha a (List.mem_append.2 (.inr (List.mem_append.2 (.inl hb)))) rfl,fun a ha hb=>h4 a ha a (List.mem_append.2 (.inr (List.mem_append.2 (.inr hb)))) rfl,
    fun a ha hb=>h6 a ha a (List.mem_append.2 (.inl hb)) rfl,fun a ha hb=>h6 a ha a (List.mem_append.2 (.inr hb)) rfl,fun a ha hb=>h8 a ha a hb rfl,h7⟩
theorem Sep.nd (h:Sep i):i.l.Nodup:=by
  show (i.hb::(hs i.bs++(hs i.os++(hs i.fs++omL i.om)))).Nodup
  refine List.nodup_cons.2 ⟨?_,List.nodup_append.2 ⟨hs_nodup _,List.nodup_append.2 ⟨hs_nodup _,List.nodup_append.2 ⟨hs_nodup _,h.D, ?_⟩, ?_⟩, ?_⟩⟩
  · simp only[List.mem_append,not_or]
    exact ⟨h.hA,h.hB,h.hC,h.hD⟩
  · intro a ha b hb e
    subst e
    exact h.CD a ha hb
  · intro a ha b hb e
    subst e
    rcases List.mem_append.1 hb with hb | hb
    · exact h.BC a ha hb
    · exact h.BD a ha hb
  · intro a ha b hb e
    subst e
    rcases List.mem_append.1 hb with hb | hb
    · exact h.AB a ha hb
    · rcases List.mem_append.1 hb with hb | hb
      · exact h.AC a ha hb
      · exact h.AD a ha hb
theorem RAt.sep (h:RAt σ i t):Sep i:=Sep.of h.nd
theorem om_mem {om:List (SlV × SlV)} {x b:Nat} (hx:x<om.length) (h:b ∈ hs om[x].1∨b ∈ hs om[x].2):b ∈ omL om:=
  List.mem_flatMap.2 ⟨_,List.getElem_mem hx,List.mem_append.2 h⟩
theorem hs_some {s:SlV} {q:Nat} (e:s.1=some ⟨q,0,none⟩):q ∈ hs s:=mem_hs.2 ⟨_,e,rfl⟩
theorem set_out {L:List Nat} {q b:Nat} {c:AObj} (hq:q ∉ L) (hb:b ∈ L):(σ.set q c)[b]?=σ[b]?:=
  List.getElem?_set_ne (fun e:q=b=>hq (by rw[e]; exact hb))
structure KeepR (i i':RI) (σ σ':AMem):Prop where
  len:σ.length≤σ'.length
  same:∀ j,j<σ.length→j ∉ i.l→σ'[j]?=σ[j]?
  new:∀ j,j ∈ i'.l→j ∈ i.l∨σ.length≤j
  hb:i'.hb=i.hb
theorem KeepR.refl (i:RI) (σ:AMem):KeepR i i σ σ:=⟨Nat.le_refl _,fun _ _ _=>rfl,fun _ h=>.inl h,rfl⟩
theorem KeepR.app (i:RI) (σ τ:AMem):KeepR i i σ (σ++τ):=⟨by simp,fun j hj _=>List.getElem?_append_left hj,fun _ h=>.inl h,rfl⟩
theorem KeepR.trans {a b c:AMem} {i i' i'':RI} (h:KeepR i i' a b) (g:KeepR i' i'' b c):KeepR i i'' a c:=by
  refine ⟨Nat.le_trans h.len g.len,fun j h1 h2=>?_,fun j hj=>?_,g.hb.trans h.hb⟩
  · refine (g.same j (Nat.lt_of_lt_of_le h1 h.len) fun hm=>?_).trans (h.same j h1 h2)
    rcases h.new j hm with h3 | h3
    · exact h2 h3
    · omega
  · rcases g.new j hj with h1 | h1
    · exact h.new j h1
    · exact .inr (Nat.le_trans h.len h1)
theorem KeepR.set {q:Nat} (σ:AMem) (c:AObj) (h:q ∈ i.l):KeepR i i σ (σ.set q c):=
  ⟨by simp,fun j hj hn=>List.getElem?_set_ne (fun e:q=j=>hn (by rw[← e]; exact h)),fun _ h=>.inl h,rfl⟩
def RGoes (mm:Option (Value × AMem)) (σ:AMem) (i:RI) (v:Value) (m':HM):Prop:=
  ∃ σ' i' t',mm=some (v,σ')∧RAt σ' i' t'∧Sim m' t'∧PinZ m'∧KeepR i i' σ σ'
theorem RGoes.same (h:RG σ i m t) (hP:PinZ m) (τ:AMem) {v:Value} {mm:Option (Value × AMem)} (he:mm=some (v,σ++τ)):RGoes mm σ i v m:=
  ⟨σ++τ,i,t,he,h.at_.app τ,h.sim,hP,KeepR.app i σ τ⟩
theorem RGoes.same0 (h:RG σ i m t) (hP:PinZ m) {v:Value} {mm:Option (Value × AMem)} (he:mm=some (v,σ)):RGoes mm σ i v m:=
  ⟨σ,i,t,he,h.at_,h.sim,hP,KeepR.refl i σ⟩
theorem RAt.newHp {μ:AMem} {i:RI} {t:RM} (bl:SlAt ty_dustcartref02_Block 2 μ i.bs t.bl.length (blRow t.bl)) (ob:SlAt ty_dustcartref02_Object 8 μ i.os t.ob.length (obRow t.ob i.om)) (fw:FwAt μ i.fs t.fw) (ol:i.om.length=t.ob.length)
    (inn:∀ (x:Nat) (h:x<t.ob.length) (h':x<i.om.length),IntsG μ i.om[x].1 t.ob[x].refs∧IntsG μ i.om[x].2 t.ob[x].data) (sep:Sep i) (lt:∀ j ∈ i.l,j<μ.length):
    RAt (μ.set i.hb (.cells [.slice i.bs.1 i.bs.2.1 i.bs.2.2,.slice i.os.1 i.os.2.1 i.os.2.2,.slice i.fs.1 i.fs.2.1 i.fs.2.2,.int .i64 t.born] ty_dustcartref02_Heap true)) i t where
  hp:=List.getElem?_set_self (lt _ i.hb_mem)
  bl:=bl.like fun a ha=>set_out (sep.hA) (mem_hs.2 ⟨a,ha,rfl⟩)
  ob:=ob.like fun a ha=>set_out (sep.hB) (mem_hs.2 ⟨a,ha,rfl⟩)
  fw:=fw.like fun a ha=>set_out (sep.hC) (mem_hs.2 ⟨a,ha,rfl⟩)
  ol:=ol
  inn:=fun x h h'=>⟨(inn x h h').1.like fun b hb=>set_out (sep.hD) (om_mem h' (.inl hb)),(inn x h h').2.like fun b hb=>set_out (sep.hD) (om_mem h' (.inr hb))⟩
  nd:=sep.nd
  lt:=fun j hj=>by rw[List.length_set]; exact lt j hj
theorem RAt.setBl (h:RAt σ i t) {q:Nat} (e:i.bs.1=some ⟨q,0,none⟩) (l':List (Int × Int)) (hl:l'.length=t.bl.length):RAt (σ.set q (.cells (blRow l') ty_dustcartref02_Block true)) i { t with bl:=l' }:=by
  have sep:=h.sep
  have hq:=hs_some e
  have hlt:=h.lt q (RI.mem_l.2 (.inr (.inl hq)))
  refine { hp:=?_,bl:=?_,ob:=?_,fw:=?_,ol:=h.ol,inn:=?_,nd:=h.nd,lt:=fun j hj=>by rw[List.length_set]; exact h.lt j hj }
  · rw[List.getElem?_set_ne (fun e':q=i.hb=>sep.hA (by rw[← e']; exact hq))]; exact h.hp
  · have:=h.bl.form
    rw[e] at this
    exact .inr ⟨q,by rw[this,hl],Nat.zero_le _,by rw[blRow_length]; omega,List.getElem?_set_self hlt⟩
  · exact h.ob.like fun a ha=>set_out (sep.AB q hq) (mem_hs.2 ⟨a,ha,rfl⟩)
  · exact h.fw.like fun a ha=>set_out (sep.AC q hq) (mem_hs.2 ⟨a,ha,rfl⟩)
  · intro x h1 h2
    exact ⟨(h.inn x h1 h2).1.like fun b hb=>set_out (sep.AD q hq) (om_mem h2 (.inl hb)),(h.inn x h1 h2).2.like fun b hb=>set_out (sep.AD q hq) (om_mem h2 (.inr hb))⟩
theorem RAt.stB (h:RAt σ i t) {b:Nat} (hb:b<t.bl.length) (x y:Int):∃ q,i.bs.1=some ⟨q,0,none⟩∧stN σ q (b*2) [.int .i64 x,.int .i64 y]=some (σ.set q (.cells (blRow (t.bl.set b (x,y))) ty_dustcartref02_Block true)) ∧
    RAt (σ.set q (.cells (blRow (t.bl.set b (x,y))) ty_dustcartref02_Block true)) i { t with bl:=t.bl.set b (x,y) }∧KeepR i i σ (σ.set q (.cells (blRow (t.bl.set b (x,y))) ty_dustcartref02_Block true)):=by
  obtain ⟨q,e,l0,l1,hc⟩:=pair_ld h.bl hb
  refine ⟨q,e, ?_,h.setBl e _ (by simp),KeepR.set _ _ (RI.mem_l.2 (.inr (.inl (hs_some e))))⟩
  have:b*2+2≤(blRow t.bl).length:=by rw[blRow_length]; omega
  simp only[stN,hc,List.length_cons,List.length_nil,Nat.zero_add,Nat.reduceAdd,this,if_true,blRow_set _ _ _ _ hb]
theorem RAt.stT (h:RAt σ i t) {b:Nat} (hb:b<t.bl.length) (y:Int):∃ q,i.bs.1=some ⟨q,0,none⟩∧AX.st1 σ q (b*2+1) (.int .i64 y)=some (σ.set q (.cells (blRow (t.bl.set b ((t.bl.getD b (0,0)).1,y))) ty_dustcartref02_Block true)) ∧
    RAt (σ.set q (.cells (blRow (t.bl.set b ((t.bl.getD b (0,0)).1,y))) ty_dustcartref02_Block true)) i { t with bl:=t.bl.set b ((t.bl.getD b (0,0)).1,y) }∧KeepR i i σ (σ.set q (.cells (blRow (t.bl.set b ((t.bl.getD b (0,0)).1,y))) ty_dustcartref02_Block true)):=by
  obtain ⟨q,e,l0,l1,hc⟩:=pair_ld h.bl hb
  refine ⟨q,e, ?_,h.setBl e _ (by simp),KeepR.set _ _ (RI.mem_l.2 (.inr (.inl (hs_some e))))⟩
  have:b*2+1<(blRow t.bl).length:=by rw[blRow_length]; omega
  simp only[AX.st1,hc,this,if_true,blRow_tag _ _ _ hb]
theorem blRow_state (l:List (Int × Int)) (b:Nat) (x:Int) (hb:b<l.length):(blRow l).set (b*2) (.int .i64 x)=blRow (l.set b (x,(l.getD b (0,0)).2)):=by
  rw[blRow_set _ _ _ _ hb]
  have h1:=(blRow_get l b hb).2
  rw[Nat.mul_comm] at h1
  have hlen:=blRow_length l
  apply List.ext_getElem?
  intro p
  unfold setRange
  by_cases hp:p=b*2
  · subst hp
    rw[List.getElem?_set_self (by omega),List.append_assoc,List.getElem?_append_right (by simp; omega)]
    simp[List.length_take,Nat.min_eq_left (show b*2≤(blRow l).length by omega)]
  · rw[List.getElem?_set_ne (Ne.symm hp),List.append_assoc]
    by_cases h2:p<b*2
    · rw[List.getElem?_append_left (by simp; omega),List.getElem?_take_of_lt h2]
    · rw[List.getElem?_append_right (by simp; omega),List.length_take,Nat.min_eq_left (show b*2≤(blRow l).length by omega)]
      by_cases h3:p=b*2+1
      · subst h3
        rw[h1,show b*2+1-b*2=1 from by omega]
        rfl
      · rw[List.getElem?_append_right (by simp; omega),List.getElem?_drop]
        congr 1
        simp only[List.length_cons,List.length_nil]
        omega
theorem RAt.stS (h:RAt σ i t) {b:Nat} (hb:b<t.bl.length) (x:Int):∃ q,i.bs.1=some ⟨q,0,none⟩∧AX.st1 σ q (b*2) (.int .i64 x)=some (σ.set q (.cells (blRow (t.bl.set b (x,(t.bl.getD b (0,0)).2))) ty_dustcartref02_Block true)) ∧
    RAt (σ.set q (.cells (blRow (t.bl.set b (x,(t.bl.getD b (0,0)).2))) ty_dustcartref02_Block true)) i { t with bl:=t.bl.set b (x,(t.bl.getD b (0,0)).2) }∧KeepR i i σ (σ.set q (.cells (blRow (t.bl.set b (x,(t.bl.getD b (0,0)).2))) ty_dustcartref02_Block true)):=by
  obtain ⟨q,e,l0,l1,hc⟩:=pair_ld h.bl hb
  refine ⟨q,e, ?_,h.setBl e _ (by simp),KeepR.set _ _ (RI.mem_l.2 (.inr (.inl (hs_some e))))⟩
  have:b*2<(blRow t.bl).length:=by rw[blRow_length]; omega
  simp only[AX.st1,hc,this,if_true,blRow_state _ _ _ hb]
theorem getD_set_bl (l:List (Int × Int)) (b c:Nat) (e:Int × Int):(l.set b e).getD c (0,0)=if c=b∧b<l.length then e else l.getD c (0,0):=by
  rw[List.getD_eq_getElem?_getD,List.getElem?_set]
  by_cases h:b=c
  · subst h
    by_cases h2:b<l.length
    · simp[h2]
    · simp[h2]
  · rw[if_neg h,if_neg (fun hh=>h hh.1.symm),List.getD_eq_getElem?_getD]
theorem clM_get (b:Nat) (e:Int × Int):∀ (n x:Nat) (l:List (Int × Int)) (c:Nat),b+x+n≤l.length→(clM l b e n x).getD c (0,0)=if b+x≤c∧c<b+x+n then e else l.getD c (0,0)
  | 0,x,l,c,h=>by rw[clM,if_neg (by omega)]
  | n+1,x,l,c,h=>by
    rw[clM,clM_get b e n (x+1) _ c (by rw[List.length_set]; omega),getD_set_bl]
    by_cases h1:b+(x+1)≤c∧c<b+(x+1)+n
    · rw[if_pos h1,if_pos (show b+x≤c∧c<b+x+(n+1) by omega)]
    · rw[if_neg h1]
      by_cases h2:c=b+x
      · rw[if_pos ⟨h2,by omega⟩,if_pos (show b+x≤c∧c<b+x+(n+1) by omega)]
      · rw[if_neg (show ¬ (c=b+x∧b+x<l.length) from fun hh=>h2 hh.1),if_neg (show ¬ (b+x≤c∧c<b+x+(n+1)) by omega)]
theorem tagM_get (b:Nat) (y:Int):∀ (n:Nat) (l:List (Int × Int)) (c:Nat),b+n≤l.length→(tagM l b y n).getD c (0,0)=if b≤c∧c<b+n then ((l.getD c (0,0)).1,y) else l.getD c (0,0)
  | 0,l,c,h=>by rw[tagM,if_neg (by omega)]
  | n+1,l,c,h=>by
    rw[tagM,tagM_get b y n _ c (by rw[List.length_set]; omega),getD_set_bl]
    by_cases h2:c=b+n
    · subst h2
      rw[if_neg (show ¬ (b≤b+n∧b+n<b+n) by omega),if_pos ⟨rfl,by omega⟩,if_pos (show b≤b+n∧b+n<b+(n+1) by omega)]
    · rw[if_neg (show ¬ (c=b+n∧b+n<l.length) from fun hh=>h2 hh.1)]
      by_cases h1:b≤c∧c<b+n
      · rw[if_pos h1,if_pos (show b≤c∧c<b+(n+1) by omega)]
      · rw[if_neg h1,if_neg (show ¬ (b≤c∧c<b+(n+1)) by omega)]
def tagA (l:List (Int × Int)) (b:Nat) (y:Int):Nat→Nat→List (Int × Int)
  | 0,_=>l
  | n+1,x=>tagA (l.set (b+x) ((l.getD (b+x) (0,0)).1,y)) b y n (x+1)
theorem tagA_length (b:Nat) (y:Int):∀ (n x:Nat) (l:List (Int × Int)),(tagA l b y n x).length=l.length
  | 0,x,l=>rfl
  | n+1,x,l=>by rw[tagA,tagA_length b y n]; simp
theorem tagA_getD (b:Nat) (y:Int):∀ (n x:Nat) (l:List (Int × Int)) (c:Nat),b+x+n≤l.length→(tagA l b y n x).getD c (0,0)=if b+x≤c∧c<b+x+n then ((l.getD c (0,0)).1,y) else l.getD c (0,0)
  | 0,x,l,c,h=>by rw[tagA,if_neg (by omega)]
  | n+1,x,l,c,h=>by
    rw[tagA,tagA_getD b y n (x+1) _ c (by rw[List.length_set]; omega),getD_set_bl]
    by_cases h2:c=b+x
    · subst h2
      rw[if_neg (show ¬ (b+(x+1)≤b+x∧b+x<b+(x+1)+n) by omega),if_pos ⟨rfl,by omega⟩,if_pos (show b+x≤b+x∧b+x<b+x+(n+1) by omega)]
    · rw[if_neg (show ¬ (c=b+x∧b+x<l.length) from fun hh=>h2 hh.1)]
      by_cases h1:b+(x+1)≤c∧c<b+(x+1)+n
      · rw[if_pos h1,if_pos (show b+x≤c∧c<b+x+(n+1) by omega)]
      · rw[if_neg h1,if_neg (show ¬ (b+x≤c∧c<b+x+(n+1)) by omega)]
theorem ext_getD {l l':List (Int × Int)} (hl:l.length=l'.length) (h:∀ c,l.getD c (0,0)=l'.getD c (0,0)):l=l':=by
  apply List.ext_getElem hl
  intro n h1 h2
  have:=h n
  rw[List.getD_eq_getElem?_getD,List.getD_eq_getElem?_getD,List.getElem?_eq_getElem h1,List.getElem?_eq_getElem h2] at this
  exact this
theorem clM_rel {l:List (Int × Int)} {b n:Nat} (h:b+n≤l.length):clM l b (0,0) n 0=relM l b n:=
  ext_getD (by rw[clM_length,relM_length]) fun c=>by rw[clM_get b _ n 0 l c (by omega),relM_getD b n l c,Nat.add_zero]
theorem tagA_tag {l:List (Int × Int)} {b n:Nat} {y:Int} (h:b+n≤l.length):tagA l b y n 0=tagM l b y n:=
  ext_getD (by rw[tagA_length,tagM_length]) fun c=>by rw[tagA_getD b y n 0 l c (by omega),tagM_get b y n l c h,Nat.add_zero]
def FZ (m:HM):Prop:=∀ c,(m.bls.getD c (0,0)).1=0→(m.bls.getD c (0,0)).2=0
theorem spanM_states {b:Nat}:∀ (f n:Nat),(m.bls.getD b (0,0)).1=1∨(m.bls.getD b (0,0)).1=2→1≤n→(∀ c,1≤c→c<n→(m.bls.getD (b+c) (0,0)).1=3) → ∀ c,c<spanM m b f n→(m.bls.getD (b+c) (0,0)).1≠0
  | 0,n,h,hn,h3,c,hc=>by
    rw[spanM] at hc
    by_cases c0:c=0
    · subst c0; rw[Nat.add_zero]; omega
    · rw[h3 c (by omega) hc]; decide
  | f+1,n,h,hn,h3,c,hc=>by
    rw[spanM] at hc
    split at hc
    · rename_i hcond
      exact spanM_states f (n+1) h (by omega) (fun c' h1 h2=>by
        by_cases e:c'=n
        · rw[e]; exact hcond.2.2
        · exact h3 c' h1 (by omega)) c hc
    · by_cases c0:c=0
      · subst c0; rw[Nat.add_zero]; omega
      · rw[h3 c (by omega) hc]; decide
theorem usedM_iff {l:List (Int × Int)} {b:Nat} (hz:∀ c,(l.getD c (0,0)).1=0→(l.getD c (0,0)).2=0):∀ (n x:Nat),usedM l b n x=none ↔ ∀ c,x≤c→c<x+n→(l.getD (b+c) (0,0)).1=0
  | 0,x=>by simp[usedM]; intro c h1 h2; omega
  | n+1,x=>by
    rw[usedM]
    by_cases h:(l.getD (b+x) (0,0)).1=0
    · rw[if_pos ⟨h,hz _ h⟩,usedM_iff hz n (x+1)]
      constructor
      · intro g c h1 h2
        by_cases e:c=x
        · rw[e]; exact h
        · exact g c (by omega) (by omega)
      · intro g c h1 h2
        exact g c (by omega) (by omega)
    · rw[if_neg (fun hh=>h hh.1)]
      constructor
      · intro g; cases g
      · intro g; exact absurd (g x (Nat.le_refl _) (by omega)) h
end
section
open Go Go.AX
noncomputable local instance qRX:Quiet:=fullQuiet
local instance nRX:Kn:=⟨true⟩
variable {σ:AMem} {m:HM} {t:RM} {i:RI}
theorem rblock_to (k:Nat) (h:RG σ i m t) (b:Int):d_ref02_Heap_block (k+1) (rptr i) b σ=some (.bool (decide (1≤b∧b<(m.bls.length:Int))),σ):=by
  rw[d_ref02_Heap_block_eq,b_ref02_Heap_block]
  by_cases h0:1≤b
  · rw[decide_eq_true (show b≥1 from h0)]
    simp only[cond_true,Option.bind_some,Nat.zero_add,Nat.add_zero,h.at_.ld0,h.bn,h0,true_and]
  · rw[decide_eq_false (show ¬ b≥1 from h0),decide_eq_false (fun hh=>h0 hh.1)]
    simp only[cond_false,Option.bind_some]
theorem rspace_to (k:Nat) (y:Int) (σ:AMem):d_ref02_space (k+1) y σ=some (.bool (okSp y),σ):=by
  rw[d_ref02_space_eq,b_ref02_space]
  unfold okSp
  by_cases h0:0≤y <;> simp[h0]
theorem rClaim_to (k:Nat) (h:RG σ i m t) (hP:PinZ m) (hz:FZ m) (b s:Int):RGoes (d_ref02_Heap_Claim (k+2) (rptr i) b s σ) σ i (.int .i64 (claimR m b 1 1 s 0 0).1) (claimR m b 1 1 s 0 0).2:=by
  have hnt:=h.nt
  rw[d_ref02_Heap_Claim_eq,b_ref02_Heap_Claim]
  simp only[rMade_g k h,rblock_to k h b,rspace_to k s,Option.bind_some,toB_bool,Bool.not_true,cond_false]
  unfold claimR
  by_cases g0:1≤b∧b<(m.bls.length:Int)
  rotate_left
  · rw[if_neg (fun hh=>g0 ⟨hh.1,hh.2.1⟩),decide_eq_false g0]
    exact RGoes.same0 h hP (by simp only[Bool.not_false,cond_true,Option.bind_some])
  rw[decide_eq_true g0]
  simp only[Bool.not_true,cond_false,Option.bind_some]
  cases hs:okSp s with
  | false=>
    rw[if_neg (fun hh=>by have:=hh.2.2.2.2; cases this)]
    exact RGoes.same0 h hP (by simp only[Bool.not_false,cond_true])
  | true=>
    rw[if_pos ⟨g0.1,g0.2,by omega,by omega,rfl⟩]
    obtain ⟨n,rfl⟩:∃ n:Nat,b=(n:Int):=⟨b.toNat,by omega⟩
    have hn:n<m.bls.length:=by omega
    obtain ⟨q,e,l0,l1,hc⟩:=rblk_ld h hn
    have qx:(0≤(n:Int)∧(n:Int)<((m.bls.length:Nat):Int))=True:=eq_true (by omega)
    simp only[Bool.not_true,cond_false,Nat.zero_add,Nat.add_zero,h.at_.ld0,h.bn,Option.bind_some,qx,if_true,e,Int.toNat_natCast,l0,show (1:Int).toNat=1 from rfl]
    have hu:usedM m.bls n 1 0=none↔(m.bls.getD n (0,0)).1=0:=by
      rw[usedM_iff hz]
      constructor
      · intro g; exact g 0 (Nat.le_refl _) (by omega)
      · intro g c h1 h2
        rw[show c=0 from by omega]; exact g
    by_cases g1:(m.bls.getD n (0,0)).1=0
    · rw[if_pos (hu.2 g1)]
      simp only[g1,bne_self_eq_false,cond_false]
      obtain ⟨q2,e2,e3,h3,k3⟩:=h.at_.stB (b:=n) (by rw[h.bn]; exact hn) 1 s
      have:q2=q:=by rw[e] at e2; cases e2; rfl
      subst this
      refine ⟨_,i,_,by simp only[e3,Option.bind_some],h3, ?_, ?_,k3⟩
      · rw[h.sim.bl]
        have:(clM m.bls n (0,0) 1 0).set n (1,s)=m.bls.set n (1,s):=by
          show (m.bls.set (n+0) (0,0)).set n (1,s)=_
          rw[Nat.add_zero,List.set_set]
        rw[this]
        exact h.sim.blocks _ (by simp)
      · exact hP.blocks _ (by rw[List.length_set,clM_length])
    · rw[if_neg (fun hh=>g1 (hu.1 hh))]
      simp only[bne_iff_ne.2 g1,cond_true]
      exact RGoes.same0 h hP rfl
theorem rClaimL_l0_to (k:Nat) (h:RG σ i m t) (hz:FZ m) {b c:Nat} (hbc:b+c≤m.bls.length):∀ (n x f:Nat),x+n=c→n<f→d_ref02_Heap_ClaimLarge_l0 k f (rptr i) (b:Int) (c:Int) ((b+x:Nat):Int) σ=some (match usedM m.bls b n x with | none=>(.exit 0,[],σ) | some _=>(.ret,[.int .i64 8],σ))
  | 0,x,0,hx,hf=>by omega
  | 0,x,f+1,hx,hf=>by
    have hnt:=h.nt
    rw[d_ref02_Heap_ClaimLarge_l0_eq,b_ref02_Heap_ClaimLarge_l0]
    have w:w64 ((b:Int)+(c:Int))=((b+c:Nat):Int):=w64_in (by unfold inI; omega)
    simp only[w,decide_eq_false (show ¬ ((b+x:Nat):Int)<((b+c:Nat):Int) by omega),cond_false,usedM]
  | n+1,x,0,hx,hf=>by omega
  | n+1,x,f+1,hx,hf=>by
    have hnt:=h.nt
    rw[d_ref02_Heap_ClaimLarge_l0_eq,b_ref02_Heap_ClaimLarge_l0,usedM]
    have w:w64 ((b:Int)+(c:Int))=((b+c:Nat):Int):=w64_in (by unfold inI; omega)
    have w1:w64 (((b+x:Nat):Int)+1)=((b+(x+1):Nat):Int):=w64_in (by unfold inI; omega)
    obtain ⟨q,e,l0,l1,hc⟩:=rblk_ld h (b:=b+x) (by omega)
    have qx:(0≤((b+x:Nat):Int)∧((b+x:Nat):Int)<((m.bls.length:Nat):Int))=True:=eq_true (by omega)
    simp only[w,decide_eq_true (show ((b+x:Nat):Int)<((b+c:Nat):Int) by omega),cond_true,Nat.zero_add,Nat.add_zero,h.at_.ld0,h.bn,Option.bind_some,qx,if_true,e,Int.toNat_natCast,l0]
    by_cases g:(m.bls.getD (b+x) (0,0)).1=0
    · rw[if_pos ⟨g,hz _ g⟩]
      simp only[g,bne_self_eq_false,cond_false,w1]
      exact rClaimL_l0_to k h hz hbc n (x+1) f (by omega) (by omega)
    · rw[if_neg (fun hh=>g hh.1)]
      simp only[bne_iff_ne.2 g,cond_true]
theorem rClaimL_l1_to (k:Nat) {b c:Nat} (s:Int):∀ (n x f:Nat) (σ:AMem) (t:RM),RAt σ i t→t.bl.length≤64→b+c≤t.bl.length→x+n=c→n<f →
    ∃ σ',d_ref02_Heap_ClaimLarge_l1 k f (rptr i) (b:Int) (c:Int) s ((b+x:Nat):Int) σ=some (.exit 2,[],σ')∧RAt σ' i { t with bl:=clM t.bl b (3,s) n x }∧KeepR i i σ σ'
  | 0,x,0,σ,t,h,hl,hb,hx,hf=>by omega
  | 0,x,f+1,σ,t,h,hl,hb,hx,hf=>by
    rw[d_ref02_Heap_ClaimLarge_l1_eq,b_ref02_Heap_ClaimLarge_l1]
    have w:w64 ((b:Int)+(c:Int))=((b+c:Nat):Int):=w64_in (by unfold inI; omega)
    exact ⟨σ,by simp only[w,decide_eq_false (show ¬ ((b+x:Nat):Int)<((b+c:Nat):Int) by omega),cond_false],h,KeepR.refl _ _⟩
  | n+1,x,0,σ,t,h,hl,hb,hx,hf=>by omega
  | n+1,x,f+1,σ,t,h,hl,hb,hx,hf=>by
    have w:w64 ((b:Int)+(c:Int))=((b+c:Nat):Int):=w64_in (by unfold inI; omega)
    have w1:w64 (((b+x:Nat):Int)+1)=((b+(x+1):Nat):Int):=w64_in (by unfold inI; omega)
    obtain ⟨q,e,e3,h3,k3⟩:=h.stB (b:=b+x) (by omega) 3 s
    obtain ⟨σ',e4,h4,k4⟩:=rClaimL_l1_to k s n (x+1) f _ _ h3 (by show (t.bl.set _ _).length≤64; rw[List.length_set]; exact hl) (by show _≤(t.bl.set _ _).length; rw[List.length_set]; exact hb) (by omega) (by omega)
    refine ⟨σ', ?_,h4,k3.trans k4⟩
    rw[d_ref02_Heap_ClaimLarge_l1_eq,b_ref02_Heap_ClaimLarge_l1]
    have qx:(0≤((b+x:Nat):Int)∧((b+x:Nat):Int)<((t.bl.length:Nat):Int))=True:=eq_true (by omega)
    simp only[w,decide_eq_true (show ((b+x:Nat):Int)<((b+c:Nat):Int) by omega),cond_true,Nat.zero_add,Nat.add_zero,h.ld0,Option.bind_some,qx,if_true,e,Int.toNat_natCast,e3,w1]
    exact e4
theorem rClaimLarge_to (k:Nat) (hk:100≤k) (h:RG σ i m t) (hP:PinZ m) (hz:FZ m) (b c s:Int) (hb:inI b) (hc:inI c):RGoes (d_ref02_Heap_ClaimLarge (k+2) (rptr i) b c s σ) σ i (.int .i64 (claimR m b c 2 s 3 s).1) (claimR m b c 2 s 3 s).2:=by
  have hnt:=h.nt
  have hbn:=h.bn
  rw[d_ref02_Heap_ClaimLarge_eq,b_ref02_Heap_ClaimLarge]
  simp only[rMade_g k h,rblock_to k h b,rspace_to k s,Option.bind_some,toB_bool,Bool.not_true,cond_false]
  unfold claimR
  by_cases g0:1≤b∧b<(m.bls.length:Int)
  rotate_left
  · rw[if_neg (fun hh=>g0 ⟨hh.1,hh.2.1⟩),decide_eq_false g0]
    exact RGoes.same0 h hP (by simp only[Bool.not_false,cond_true,Option.bind_some])
  obtain ⟨n,rfl⟩:∃ n:Nat,b=(n:Int):=⟨b.toNat,by omega⟩
  have hn:n<m.bls.length:=by omega
  have wd:w64 (((m.bls.length:Nat):Int)-(n:Int))=((m.bls.length-n:Nat):Int):=by rw[w64_in (by unfold inI; omega)]; omega
  rw[decide_eq_true g0]
  simp only[Bool.not_true,cond_false,Option.bind_some]
  by_cases g1:c<1
  · rw[if_neg (fun hh=>by have:=hh.2.2.1; omega)]
    exact RGoes.same0 h hP (by simp only[decide_eq_true g1,cond_true,Option.bind_some])
  simp only[decide_eq_false g1,cond_false,Option.bind_some,Nat.zero_add,Nat.add_zero,h.at_.ld0,h.bn,wd]
  by_cases g2:c>((m.bls.length-n:Nat):Int)
  · rw[if_neg (fun hh=>by have:=hh.2.2.2.1; omega)]
    exact RGoes.same0 h hP (by simp only[decide_eq_true g2,cond_true,Option.bind_some])
  simp only[decide_eq_false g2,cond_false,Option.bind_some]
  cases hs:okSp s with
  | false=>
    rw[if_neg (fun hh=>by have:=hh.2.2.2.2; cases this)]
    exact RGoes.same0 h hP (by simp only[Bool.not_false,cond_true])
  | true=>
    rw[if_pos ⟨g0.1,g0.2,by omega,by omega,rfl⟩]
    obtain ⟨w,rfl⟩:∃ w:Nat,c=(w:Int):=⟨c.toNat,by omega⟩
    have hw:n+w≤m.bls.length:=by omega
    have e0:d_ref02_Heap_ClaimLarge_l0 (k+1) (k+1) (rptr i) (n:Int) (w:Int) (n:Int) σ=_:=rClaimL_l0_to (k+1) h hz hw w 0 (k+1) (by omega) (by omega)
    simp only[Bool.not_true,cond_false,e0,Option.bind_some,Int.toNat_natCast]
    cases g3:usedM m.bls n w 0 with
    | none=>
      simp only[if_true]
      obtain ⟨σ1,e1,h1,k1⟩:=rClaimL_l1_to (i:=i) (k+1) (b:=n) (c:=w) s w 0 (k+1) σ t h.at_ (by rw[hbn]; exact hnt) (by rw[hbn]; exact hw) (by omega) (by omega)
      have e1':d_ref02_Heap_ClaimLarge_l1 (k+1) (k+1) (rptr i) (n:Int) (w:Int) s (n:Int) σ=_:=e1
      have hcl:(clM t.bl n (3,s) w 0).length=m.bls.length:=by rw[clM_length,hbn]
      obtain ⟨q,e2,e3,h3,k3⟩:=h1.stS (b:=n) (by show n<(clM t.bl n (3,s) w 0).length; omega) 2
      have hg:((clM t.bl n (3,s) w 0).getD n (0,0)).2=s:=by
        rw[clM_get n (3,s) w 0 t.bl n (by omega),if_pos (by omega)]
      have e3':AX.st1 σ1 q (n*2) (.int .i64 2)=some (σ1.set q (.cells (blRow ((clM t.bl n (3,s) w 0).set n (2,((clM t.bl n (3,s) w 0).getD n (0,0)).2))) ty_dustcartref02_Block true)):=e3
      have h3':RAt (σ1.set q (.cells (blRow ((clM t.bl n (3,s) w 0).set n (2,((clM t.bl n (3,s) w 0).getD n (0,0)).2))) ty_dustcartref02_Block true)) i { t with bl:=(clM t.bl n (3,s) w 0).set n (2,((clM t.bl n (3,s) w 0).getD n (0,0)).2) }:=h3
      have ld:ldS σ1 i.hb 0=some (i.bs.1,(clM t.bl n (3,s) w 0).length,(clM t.bl n (3,s) w 0).length):=h1.ld0
      rw[hg] at e3' h3'
      have qx:(0≤(n:Int)∧(n:Int)<((m.bls.length:Nat):Int))=True:=eq_true (by omega)
      refine ⟨σ1.set q (.cells (blRow ((clM t.bl n (3,s) w 0).set n (2,s))) ty_dustcartref02_Block true),i,{ t with bl:=(clM m.bls n (3,s) w 0).set n (2,s) }, ?_, ?_, ?_, ?_⟩
      · simp only[if_true,e1',Option.bind_some,ld,hcl,qx,if_true,e2,Int.toNat_natCast,Nat.zero_add,e3']
      · rw[← h.sim.bl]; exact h3'
      · exact h.sim.blocks _ (by rw[List.length_set,clM_length])
      · exact ⟨hP.blocks _ (by rw[List.length_set,clM_length]),k1.trans (KeepR.set _ _ (RI.mem_l.2 (.inr (.inl (hs_some e2)))))⟩
    | some x0=>
      simp only[reduceCtorEq,if_false,if_true,u_i_eq]
      exact RGoes.same0 h hP rfl
theorem rRelease_l0_to (k:Nat) {b c:Nat}:∀ (n x f:Nat) (σ:AMem) (t:RM),RAt σ i t→t.bl.length≤64→b+c≤t.bl.length→x+n=c→n<f →
    ∃ σ',d_ref02_Heap_Release_l0 k f (rptr i) (b:Int) (c:Int) ((b+x:Nat):Int) σ=some (.exit 0,[],σ')∧RAt σ' i { t with bl:=clM t.bl b (0,0) n x }∧KeepR i i σ σ'
  | 0,x,0,σ,t,h,hl,hb,hx,hf=>by omega
  | 0,x,f+1,σ,t,h,hl,hb,hx,hf=>by
    rw[d_ref02_Heap_Release_l0_eq,b_ref02_Heap_Release_l0]
    have w:w64 ((b:Int)+(c:Int))=((b+c:Nat):Int):=w64_in (by unfold inI; omega)
    exact ⟨σ,by simp only[w,decide_eq_false (show ¬ ((b+x:Nat):Int)<((b+c:Nat):Int) by omega),cond_false],h,KeepR.refl _ _⟩
  | n+1,x,0,σ,t,h,hl,hb,hx,hf=>by omega
  | n+1,x,f+1,σ,t,h,hl,hb,hx,hf=>by
    have w:w64 ((b:Int)+(c:Int))=((b+c:Nat):Int):=w64_in (by unfold inI; omega)
    have w1:w64 (((b+x:Nat):Int)+1)=((b+(x+1):Nat):Int):=w64_in (by unfold inI; omega)
    obtain ⟨q,e,e3,h3,k3⟩:=h.stB (b:=b+x) (by omega) 0 0
    obtain ⟨σ',e4,h4,k4⟩:=rRelease_l0_to k n (x+1) f _ _ h3 (by show (t.bl.set _ _).length≤64; rw[List.length_set]; exact hl) (by show _≤(t.bl.set _ _).length; rw[List.length_set]; exact hb) (by omega) (by omega)
    refine ⟨σ', ?_,h4,k3.trans k4⟩
    rw[d_ref02_Heap_Release_l0_eq,b_ref02_Heap_Release_l0]
    have qx:(0≤((b+x:Nat):Int)∧((b+x:Nat):Int)<((t.bl.length:Nat):Int))=True:=eq_true (by omega)
    simp only[w,decide_eq_true (show ((b+x:Nat):Int)<((b+c:Nat):Int) by omega),cond_true,Nat.zero_add,Nat.add_zero,h.ld0,Option.bind_some,qx,if_true,e,Int.toNat_natCast,e3,w1]
    exact e4
theorem rRetag_l0_to (k:Nat) {b c:Nat} (y:Int):∀ (n x f:Nat) (σ:AMem) (t:RM),RAt σ i t→t.bl.length≤64→b+c≤t.bl.length→x+n=c→n<f →
    ∃ σ',d_ref02_Heap_Retag_l0 k f (rptr i) (b:Int) y (c:Int) ((b+x:Nat):Int) σ=some (.exit 0,[],σ')∧RAt σ' i { t with bl:=tagA t.bl b y n x }∧KeepR i i σ σ'
  | 0,x,0,σ,t,h,hl,hb,hx,hf=>by omega
  | 0,x,f+1,σ,t,h,hl,hb,hx,hf=>by
    rw[d_ref02_Heap_Retag_l0_eq,b_ref02_Heap_Retag_l0]
    have w:w64 ((b:Int)+(c:Int))=((b+c:Nat):Int):=w64_in (by unfold inI; omega)
    exact ⟨σ,by simp only[w,decide_eq_false (show ¬ ((b+x:Nat):Int)<((b+c:Nat):Int) by omega),cond_false],h,KeepR.refl _ _⟩
  | n+1,x,0,σ,t,h,hl,hb,hx,hf=>by omega
  | n+1,x,f+1,σ,t,h,hl,hb,hx,hf=>by
    have w:w64 ((b:Int)+(c:Int))=((b+c:Nat):Int):=w64_in (by unfold inI; omega)
    have w1:w64 (((b+x:Nat):Int)+1)=((b+(x+1):Nat):Int):=w64_in (by unfold inI; omega)
    obtain ⟨q,e,e3,h3,k3⟩:=h.stT (b:=b+x) (by omega) y
    obtain ⟨σ',e4,h4,k4⟩:=rRetag_l0_to k y n (x+1) f _ _ h3 (by show (t.bl.set _ _).length≤64; rw[List.length_set]; exact hl) (by show _≤(t.bl.set _ _).length; rw[List.length_set]; exact hb) (by omega) (by omega)
    refine ⟨σ', ?_,h4,k3.trans k4⟩
    rw[d_ref02_Heap_Retag_l0_eq,b_ref02_Heap_Retag_l0]
    have qx:(0≤((b+x:Nat):Int)∧((b+x:Nat):Int)<((t.bl.length:Nat):Int))=True:=eq_true (by omega)
    simp only[w,decide_eq_true (show ((b+x:Nat):Int)<((b+c:Nat):Int) by omega),cond_true,Nat.zero_add,Nat.add_zero,h.ld0,Option.bind_some,qx,if_true,e,Int.toNat_natCast,e3,w1]
    exact e4
theorem wholeN_pos {n:Nat} (h:(m.bls.getD n (0,0)).1=1∨(m.bls.getD n (0,0)).1=2) (hn:n<m.bls.length):wholeN m n=spanF m n∧1≤spanF m n:=by
  have key:∀ f x,1≤x→1≤spanM m n f x:=by
    intro f
    induction f with
    | zero=>intro x hx; exact hx
    | succ f ih=>
      intro x hx
      rw[spanM]
      split
      · exact ih (x+1) (by omega)
      · exact hx
  refine ⟨?_,key _ _ (Nat.le_refl _)⟩
  unfold wholeN
  by_cases h1:(m.bls.getD n (0,0)).1=1
  · rw[if_pos h1]
    unfold spanF
    cases hl:m.bls.length with
    | zero=>rfl
    | succ f=>rw[spanM,if_neg (fun hh=>by rw[h1] at hh; exact absurd hh.1 (by decide))]
  · rw[if_neg h1,if_pos (by omega)]
theorem rRelease_to (k:Nat) (hk:5000≤k) (h:RG σ i m t) (hP:PinZ m) (b:Int):RGoes (d_ref02_Heap_Release (k+3) (rptr i) b σ) σ i (.int .i64 (releaseR m b).1) (releaseR m b).2:=by
  have hnt:=h.nt
  have hbn:=h.bn
  rw[d_ref02_Heap_Release_eq,b_ref02_Heap_Release]
  simp only[rMade_g (k+1) h,rblock_to (k+1) h b,Option.bind_some,toB_bool,Bool.not_true,cond_false]
  unfold releaseR heldM
  by_cases g0:1≤b∧b<(m.bls.length:Int)
  rotate_left
  · have q:(¬(1≤b∧b<(m.bls.length:Int))∨true=false)=True:=eq_true (.inl g0)
    rw[decide_eq_false g0]
    simp only[q,if_true,show ((1:Int)=0)=False from by decide,if_false]
    exact RGoes.same0 h hP (by simp only[Bool.not_false,cond_true])
  have q:(¬(1≤b∧b<(m.bls.length:Int))∨true=false)=False:=eq_false (by simp; omega)
  simp only[q,if_false]
  obtain ⟨n,rfl⟩:∃ n:Nat,b=(n:Int):=⟨b.toNat,by omega⟩
  have hn:n<m.bls.length:=by omega
  have eW:d_ref02_Heap_Whole (k+2) (rptr i) (n:Int) σ=_:=rWhole_to (k+1) (by omega) h hn
  rw[decide_eq_true g0]
  simp only[Bool.not_true,cond_false,eW,Option.bind_some,toI_int,Int.toNat_natCast]
  by_cases g1:(m.bls.getD n (0,0)).1≠1∧(m.bls.getD n (0,0)).1≠2
  · have:wholeN m n=0:=by unfold wholeN; rw[if_neg g1.1,if_neg g1.2]
    rw[this]
    simp only[g1,ne_eq,not_false_eq_true,and_self,if_true,show ((5:Int)=0)=False from by decide,if_false]
    exact RGoes.same0 h hP rfl
  obtain ⟨p1,p2⟩:=wholeN_pos (n:=n) (by omega) hn
  have hsp:=spanF_le hn
  rw[p1]
  have qn:(((spanF m n:Nat):Int) == 0)=false:=beq_eq_false_iff_ne.2 (by omega)
  obtain ⟨τ,s,eO,iO⟩:=rObjects_to k hk h (n:Int)
  have eobj:objsI m (n:Int)=starts m (32*n) 32:=by unfold objsI; rw[if_pos (by omega),Int.toNat_natCast]
  rw[eobj] at iO
  have sl:s.2.1=(starts m (32*n) 32).length:=by
    rw[← show (addrs (starts m (32*n) 32)).length=(starts m (32*n) 32).length from by simp[addrs]]; exact iO.sl.len
  simp only[g1,qn,cond_false,eO,Option.bind_some,toS,sl,if_false,if_true]
  by_cases g2:starts m (32*n) 32=[]
  · rw[if_pos g2,g2]
    obtain ⟨σ1,e1,h1,k1⟩:=rRelease_l0_to (i:=i) (k+2) (b:=n) (c:=spanF m n) (spanF m n) 0 (k+2) (σ++τ) t (h.at_.app τ) (by omega) (by omega) (by omega) (by omega)
    have e1':d_ref02_Heap_Release_l0 (k+2) (k+2) (rptr i) (n:Int) ((spanF m n:Nat):Int) (n:Int) (σ++τ)=_:=e1
    refine ⟨σ1,i,_,by simp only[List.length_nil,show decide ((((0:Nat):Int))>0)=false from rfl,cond_false,e1',Option.bind_some,if_true],h1, ?_, ?_,(KeepR.app i σ τ).trans k1⟩
    · rw[clM_rel (by omega),h.sim.bl]
      exact h.sim.blocks _ (relM_length _ _ _)
    · exact hP.blocks _ (relM_length _ _ _)
  · rw[if_neg g2]
    have:0<(starts m (32*n) 32).length:=List.length_pos_iff.2 g2
    simp only[decide_eq_true (show (((starts m (32*n) 32).length:Nat):Int)>0 by omega),cond_true]
    exact RGoes.same h hP τ rfl
theorem rRetag_to (k:Nat) (hk:5000≤k) (h:RG σ i m t) (hP:PinZ m) (b y:Int):RGoes (d_ref02_Heap_Retag (k+3) (rptr i) b y σ) σ i (.int .i64 (retagR m b y).1) (retagR m b y).2:=by
  have hnt:=h.nt
  have hbn:=h.bn
  rw[d_ref02_Heap_Retag_eq,b_ref02_Heap_Retag]
  simp only[rMade_g (k+1) h,rblock_to (k+1) h b,rspace_to (k+1) y,Option.bind_some,toB_bool,Bool.not_true,cond_false]
  unfold retagR heldM
  by_cases g0:1≤b∧b<(m.bls.length:Int)
  rotate_left
  · have q:(¬(1≤b∧b<(m.bls.length:Int))∨okSp y=false)=True:=eq_true (.inl g0)
    rw[decide_eq_false g0]
    simp only[q,if_true,show ((1:Int)=0)=False from by decide,if_false]
    exact RGoes.same0 h hP (by simp only[Bool.not_false,cond_true,Option.bind_some])
  rw[decide_eq_true g0]
  cases hs:okSp y with
  | false=>
    simp only[Bool.not_true,cond_false,Option.bind_some,or_true,if_true,show ((1:Int)=0)=False from by decide,if_false]
    exact RGoes.same0 h hP (by simp only[Bool.not_false,cond_true])
  | true=>
  have q:(¬(1≤b∧b<(m.bls.length:Int))∨true=false)=False:=eq_false (by simp; omega)
  simp only[q,if_false]
  obtain ⟨n,rfl⟩:∃ n:Nat,b=(n:Int):=⟨b.toNat,by omega⟩
  have hn:n<m.bls.length:=by omega
  have eW:d_ref02_Heap_Whole (k+2) (rptr i) (n:Int) σ=_:=rWhole_to (k+1) (by omega) h hn
  simp only[Bool.not_true,cond_false,eW,Option.bind_some,toI_int,Int.toNat_natCast]
  by_cases g1:(m.bls.getD n (0,0)).1≠1∧(m.bls.getD n (0,0)).1≠2
  · have:wholeN m n=0:=by unfold wholeN; rw[if_neg g1.1,if_neg g1.2]
    rw[this]
    simp only[g1,ne_eq,not_false_eq_true,and_self,if_true,show ((5:Int)=0)=False from by decide,if_false]
    exact RGoes.same0 h hP rfl
  obtain ⟨p1,p2⟩:=wholeN_pos (n:=n) (by omega) hn
  have hsp:=spanF_le hn
  rw[p1]
  have qn:(((spanF m n:Nat):Int) == 0)=false:=beq_eq_false_iff_ne.2 (by omega)
  obtain ⟨σ1,e1,h1,k1⟩:=rRetag_l0_to (i:=i) (k+2) (b:=n) (c:=spanF m n) y (spanF m n) 0 (k+2) σ t h.at_ (by omega) (by omega) (by omega) (by omega)
  have e1':d_ref02_Heap_Retag_l0 (k+2) (k+2) (rptr i) (n:Int) y ((spanF m n:Nat):Int) (n:Int) σ=_:=e1
  simp only[g1,qn,cond_false,e1',Option.bind_some,if_false,if_true]
  refine ⟨σ1,i,_,rfl,h1, ?_, ?_,k1⟩
  · rw[tagA_tag (by omega),h.sim.bl]
    exact h.sim.blocks _ (tagM_length _ _ _ _)
  · exact hP.blocks _ (tagM_length _ _ _ _)
end
section
open Go Go.AX
noncomputable local instance qRY:Quiet:=fullQuiet
local instance nRY:Kn:=⟨true⟩
variable {σ:AMem} {m:HM} {t:RM} {i:RI}
theorem bound_eq {ρ:Type} {x:Option Value} {d top v:Nat} (h:x=some (.int .i64 (v:Int))∨(x=none∧d=v)) (hv:v≤top) (K:Nat→Option ρ):bound x d top K=K v:=by
  rcases h with rfl | ⟨rfl,rfl⟩
  · show (if 0≤(v:Int)∧(v:Int)≤(top:Int) then K (v:Int).toNat else none)=K v
    rw[if_pos (by omega),Int.toNat_natCast]
  · rfl
theorem slice_part {E:TypeId} {s:Nat} {sl0:SlV} {n0:Nat} {row0:List Value} (h0:SlAt E s σ sl0 n0 row0) (lo hi:Nat) (hlh:lo≤hi) (hh:hi≤n0) (L H:Option Value) (hL:L=some (.int .i64 (lo:Int))∨(L=none∧0=lo)) (hH:H=some (.int .i64 (hi:Int))∨(H=none∧n0=hi)):
    ∃ src c,sliceD E s (sl0.1,n0,n0) L H none σ=some (src,hi-lo,c)∧firstA σ s src (hi-lo)=some ((row0.drop (lo*s)).take ((hi-lo)*s)):=by
  unfold sliceD
  simp only[Option.isSome_none,Bool.not_false,Bool.true_or,cond_true]
  rw[bound_eq (v:=n0) (.inr ⟨rfl,rfl⟩) (Nat.le_refl _),bound_eq hH hh,bound_eq hL hlh]
  rcases h0 with ⟨rfl,rfl,rfl⟩ | ⟨b,rfl,_,hl,hcell⟩
  · have e1:hi=0:=by omega
    have e2:lo=0:=by omega
    subst e1; subst e2
    exact ⟨none,0,by simp,by simp[firstA]⟩
  · have e1:elemAt σ b=some E:=by simp only[elemAt,hcell]
    have ld:∀ o n,o+n≤row0.length→ldN σ b o n=some ((row0.drop o).take n):=fun o n h=>by simp only[ldN,hcell]; rw[if_pos h]
    by_cases e:n0=lo
    · have e2:hi-lo=0:=by omega
      refine ⟨some ⟨b,0,none⟩,0, ?_, ?_⟩
      · rw[if_pos e,e2]
        simp only[cond_false,e1,if_true]
      · rw[e2,Nat.zero_mul]
        simp only[firstA,Nat.zero_mul]
        rw[ld 0 0 (by omega)]; rfl
    · refine ⟨some ⟨b,0+lo*s,none⟩,n0-lo, ?_, ?_⟩
      · rw[if_neg e]
        simp only[Option.bind_some,e1,if_true]
      · simp only[firstA,Nat.zero_add]
        refine ld _ _ ?_
        rw[hl,← Nat.add_mul]
        exact Nat.mul_le_mul_right _ (by omega)
theorem stN_nil {b o:Nat} {cs:List Value} {T:TypeId} (h:σ[b]?=some (.cells cs T true)) (ho:o≤cs.length):stN σ b o []=some σ:=by
  simp only[stN,h,List.length_nil,Nat.add_zero,ho,if_true,setRange,List.append_nil,List.take_append_drop]
  rw[set_same h]
theorem append_zero {E:TypeId} {s by_:Nat} {z:Value} (hs:szOf P E=some s) (hb:bytesOf P E=some by_) (hz:zerosOf P E=some z) (hz1:isTup z=false) (hz2:z.cells.size=s) (hs0:0<s)
    (σ:AMem) (sl:SlV) (n:Nat) (row:List Value) (src:Option Addr) (c:Nat) (hsl:SlAt E s σ sl n row) (hx:firstA σ s src 0=some []):
    appendD P E sl (src,0,c) σ=some (sl,σ):=by
  unfold appendD appendA
  simp only[hs,hb,hz,Option.bind_some,hx]
  have h1:(¬ (isTup z=false∧some s=some z.cells.size∧0<z.cells.size))=False:=by
    rw[hz1,hz2]; simp[hs0]
  simp only[h1,if_false]
  rcases hsl with ⟨rfl,rfl,rfl⟩ | ⟨b,rfl,hp,hl,hcell⟩
  · simp only[Nat.add_zero,Nat.le_refl,if_true,fixedB,cond_true,slK]
  · simp only[Nat.add_zero,Nat.le_refl,if_true,fixedB,Option.isSome_none,cond_false,Option.bind_some,Nat.zero_add]
    rw[stN_nil hcell (by omega)]
    simp only[Option.bind_some,slK]
theorem append_part {E:TypeId} {s by_:Nat} {z:Value} (hs:szOf P E=some s) (hb:bytesOf P E=some by_) (hz:zerosOf P E=some z) (hz1:isTup z=false) (hz2:z.cells.size=s) (hs0:0<s) (hb0:0<by_) (hb1:by_≤1000)
    (σ τ:AMem) (sl:SlV) (n:Nat) (row:List Value) (hsl:SlAt E s (σ++τ) sl n row) (hbh:∀ a,sl.1=some a→σ.length≤a.block) {sl0:SlV} {n0:Nat} {row0:List Value} (h0:SlAt E s (σ++τ) sl0 n0 row0) (lo hi:Nat) (hlh:lo≤hi) (hh:hi≤n0) (hn:n+n0≤1000000)
    (L H:Option Value) (hL:L=some (.int .i64 (lo:Int))∨(L=none∧0=lo)) (hH:H=some (.int .i64 (hi:Int))∨(H=none∧n0=hi)):
    ∃ src,sliceD E s (sl0.1,n0,n0) L H none (σ++τ)=some src ∧ ∃ s' τ',appendD P E sl (src.1,src.2.1,src.2.2) (σ++τ)=some (s',σ++τ')∧SlAt E s (σ++τ') s' (n+(hi-lo)) (row++(row0.drop (lo*s)).take ((hi-lo)*s))∧(∀ a,s'.1=some a→σ.length≤a.block):=by
  obtain ⟨src,c,e1,e2⟩:=slice_part h0 lo hi hlh hh L H hL hH
  refine ⟨_,e1, ?_⟩
  have hlen:((row0.drop (lo*s)).take ((hi-lo)*s)).length=(hi-lo)*s:=by
    have hr:row0.length=n0*s:=by
      rcases h0 with ⟨rfl,rfl,rfl⟩ | ⟨b,rfl,_,hl,_⟩
      · simp
      · exact hl
    rw[List.length_take,List.length_drop,hr,← Nat.sub_mul]
    exact Nat.min_eq_left (Nat.mul_le_mul_right _ (by omega))
  by_cases hz0:hi-lo=0
  · rw[hz0,Nat.zero_mul,List.take_zero] at e2
    refine ⟨sl,τ, ?_, ?_,hbh⟩
    · simp only[hz0]
      exact append_zero hs hb hz hz1 hz2 hs0 _ sl n row src c hsl e2
    · rw[hz0,Nat.zero_mul,List.take_zero,List.append_nil]; exact hsl
  · obtain ⟨s',σ',e,g,h⟩:=append_any hs hb hz hz1 hz2 hs0 hb0 hb1 (σ++τ) sl n row src (hi-lo) c _ (by omega) (by omega) hlen hsl e2
    obtain ⟨⟨τ',rfl⟩,h2⟩:=g.behind hbh
    exact ⟨s',τ',e,h,h2⟩
theorem szO:szOf P ty_dustcartref02_Object=some 8:=by kernel_rfl
theorem byO:bytesOf P ty_dustcartref02_Object=some 96:=by kernel_rfl
theorem zzO:zerosOf P ty_dustcartref02_Object=some (.agg #[.int .i64 0,.int .i64 0,.int .i64 0,.int .i64 0,.int .i64 0,.slice none 0 0,.slice none 0 0,.bool false]):=by kernel_rfl
theorem obRow_app:∀ (l l':List RO) (om om':List (SlV × SlV)),om.length=l.length→obRow (l++l') (om++om')=obRow l om++obRow l' om'
  | [],l',[],om',h=>rfl
  | [],l',p::om,om',h=>by simp at h
  | o::l,l',[],om',h=>by simp at h
  | o::l,l',p::om,om',h=>by
    simp only[List.cons_append,obRow,obRow_app l l' om om' (by simpa using h),List.append_assoc]
theorem obRow_split (l:List RO) (om:List (SlV × SlV)) (h:om.length=l.length) (a:Nat) (ha:a≤l.length):(obRow l om).take (a*8)=obRow (l.take a) (om.take a)∧(obRow l om).drop (a*8)=obRow (l.drop a) (om.drop a):=by
  have e:obRow l om=obRow (l.take a) (om.take a)++obRow (l.drop a) (om.drop a):=by
    rw[← obRow_app _ _ _ _ (by simp; omega),List.take_append_drop,List.take_append_drop]
  have hl:(obRow (l.take a) (om.take a)).length=a*8:=by rw[obRow_len _ _ (by simp; omega),List.length_take,Nat.min_eq_left ha]
  rw[e]
  constructor
  · rw[← hl,List.take_left]
  · rw[← hl,List.drop_left]
theorem omL_app (a b:List (SlV × SlV)):omL (a++b)=omL a++omL b:=by unfold omL; rw[List.flatMap_append]
theorem omL_cons (p:SlV × SlV) (b:List (SlV × SlV)):omL (p::b)=(hs p.1++hs p.2)++omL b:=rfl
theorem omL_split (om:List (SlV × SlV)) (x:Nat):omL om=omL (om.take x)++omL (om.drop x):=by rw[← omL_app,List.take_append_drop]
theorem mem_hs_lt {lo:Nat} {s:SlV} (h:∀ a,s.1=some a→lo≤a.block) {j:Nat} (hj:j ∈ hs s):lo≤j:=by
  obtain ⟨a,ha,rfl⟩:=mem_hs.1 hj
  exact h a ha
theorem rcut_to (k:Nat) (h:RAt σ i t) (hn:t.ob.length≤5000) {x:Nat} (hx:x<t.ob.length):∃ σ' os',d_ref02_Heap_cut (k+1) (rptr i) (x:Int) σ=some (.tuple #[],σ')∧RAt σ' { i with os:=os',om:=i.om.eraseIdx x } { t with ob:=t.ob.eraseIdx x }∧KeepR i { i with os:=os',om:=i.om.eraseIdx x } σ σ'∧(∀ a,os'.1=some a→σ.length≤a.block)∧(∀ j,j<σ.length→j≠i.hb→σ'[j]?=σ[j]?):=by
  have sep:=h.sep
  have hol:=h.ol
  have h0:SlAt ty_dustcartref02_Object 8 (σ++[]) i.os t.ob.length (obRow t.ob i.om):=by rw[List.append_nil]; exact h.ob
  obtain ⟨src1,e1,s1,τ1,a1,sl1,b1⟩:=append_part szO byO zzO rfl rfl (by decide) (by decide) (by decide) σ [] (none,0,0) 0 [] (SlAt.nil _ _ _) (by intro a ha; cases ha) h0 0 x (by omega) (by omega) (by omega) none (some (.int .i64 (x:Int))) (.inr ⟨rfl,rfl⟩) (.inl rfl)
  rw[Nat.zero_mul,List.drop_zero,Nat.sub_zero,List.nil_append,Nat.zero_add,(obRow_split t.ob i.om hol x (by omega)).1] at sl1
  rw[List.append_nil] at e1 a1
  have hg:=h.app τ1
  obtain ⟨src2,e2,s2,τ2,a2,sl2,b2⟩:=append_part szO byO zzO rfl rfl (by decide) (by decide) (by decide) σ τ1 s1 x _ sl1 b1 hg.ob (x+1) t.ob.length (by omega) (Nat.le_refl _) (by omega) (some (.int .i64 ((x+1:Nat):Int))) none (.inl rfl) (.inr ⟨rfl,rfl⟩)
  rw[(obRow_split t.ob i.om hol (x+1) (by omega)).2,List.take_of_length_le (l:=obRow (t.ob.drop (x+1)) (i.om.drop (x+1))) (by rw[obRow_len _ _ (by simp; omega),List.length_drop]; exact Nat.le_refl _),← obRow_app _ _ _ _ (by simp; omega)] at sl2
  rw[← List.eraseIdx_eq_take_drop_succ,← List.eraseIdx_eq_take_drop_succ,show x+(t.ob.length-(x+1))=(t.ob.eraseIdx x).length from by rw[List.length_eraseIdx_of_lt hx]; omega] at sl2
  have hg2:=h.app τ2
  have hsub:∀ j ∈ omL (i.om.eraseIdx x),j ∈ omL i.om:=by
    intro j hj
    rw[List.eraseIdx_eq_take_drop_succ,omL_app] at hj
    rw[omL_split i.om x,List.drop_eq_getElem_cons (by omega),omL_cons]
    rcases List.mem_append.1 hj with hj | hj
    · exact List.mem_append.2 (.inl hj)
    · exact List.mem_append.2 (.inr (List.mem_append.2 (.inr hj)))
  have hnd:(omL (i.om.eraseIdx x)).Nodup:=by
    have:=sep.D
    rw[omL_split i.om x,List.drop_eq_getElem_cons (by omega),omL_cons] at this
    rw[List.eraseIdx_eq_take_drop_succ,omL_app]
    exact this.sublist (List.Sublist.append (List.Sublist.refl _) (List.sublist_append_right _ _))
  have hlt:=h.lt
  have hin:∀ {j},j ∈ i.l→j<σ.length:=fun hj=>hlt _ hj
  have hB:∀ j ∈ hs s2,σ.length≤j:=fun j hj=>mem_hs_lt b2 hj
  have mA:∀ j ∈ hs i.bs,j<σ.length:=fun j hj=>hin (RI.mem_l.2 (.inr (.inl hj)))
  have mC:∀ j ∈ hs i.fs,j<σ.length:=fun j hj=>hin (RI.mem_l.2 (.inr (.inr (.inr (.inl hj)))))
  have mD:∀ j ∈ omL i.om,j<σ.length:=fun j hj=>hin (RI.mem_l.2 (.inr (.inr (.inr (.inr hj)))))
  have mh:=hin i.hb_mem
  have sep':Sep { i with os:=s2,om:=i.om.eraseIdx x }:=
    { hA:=sep.hA,hB:=fun hh=>Nat.not_lt.2 (hB _ hh) mh,hC:=sep.hC,hD:=fun hh=>sep.hD (hsub _ hh),
      AB:=fun a ha hh=>by have:=hB _ hh; have:=mA _ ha; omega,AC:=sep.AC,AD:=fun a ha hh=>sep.AD a ha (hsub _ hh),
      BC:=fun a ha hh=>by have:=hB _ ha; have:=mC _ hh; omega,BD:=fun a ha hh=>by have:=hB _ ha; have:=mD _ (hsub _ hh); omega,CD:=fun a ha hh=>sep.CD a ha (hsub _ hh),D:=hnd }
  have hlt2:∀ j ∈ RI.l { i with os:=s2,om:=i.om.eraseIdx x },j<(σ++τ2).length:=by
    intro j hj
    rcases RI.mem_l.1 hj with hj | hj | hj | hj | hj
    · have hj':j=i.hb:=hj
      rw[hj',List.length_append]; omega
    · have:=mA _ hj; simp; omega
    · obtain ⟨a,ha,rfl⟩:=mem_hs.1 hj; exact sl2.lt a ha
    · have:=mC _ hj; simp; omega
    · have:=mD _ (hsub _ hj); simp; omega
  have hinn:∀ (y:Nat) (h1:y<(t.ob.eraseIdx x).length) (h2:y<(i.om.eraseIdx x).length),IntsG (σ++τ2) (i.om.eraseIdx x)[y].1 (t.ob.eraseIdx x)[y].refs∧IntsG (σ++τ2) (i.om.eraseIdx x)[y].2 (t.ob.eraseIdx x)[y].data:=by
    intro y h1 h2
    rw[List.getElem_eraseIdx,List.getElem_eraseIdx]
    split
    · exact hg2.inn y (by omega) (by omega)
    · have hl:=List.length_eraseIdx_of_lt hx
      exact hg2.inn (y+1) (by omega) (by omega)
  have hR:=RAt.newHp (i:={ i with os:=s2,om:=i.om.eraseIdx x }) (t:={ t with ob:=t.ob.eraseIdx x }) hg2.bl sl2 hg2.fw (by show (i.om.eraseIdx x).length=(t.ob.eraseIdx x).length; rw[List.length_eraseIdx_of_lt hx,List.length_eraseIdx_of_lt (by omega),hol]) hinn sep' hlt2
  refine ⟨_,s2, ?_,hR,⟨by simp,fun j hj hn=>?_,fun j hj=>?_,rfl⟩,b2,fun j hj hne=>?_⟩
  · rw[d_ref02_Heap_cut_eq,b_ref02_Heap_cut]
    have w:w64 ((x:Int)+1)=((x+1:Nat):Int):=w64_in (by unfold inI; omega)
    have est:AX.st1 (σ++τ2) i.hb 1 (.slice s2.1 s2.2.1 s2.2.2)=some ((σ++τ2).set i.hb (.cells [.slice i.bs.1 i.bs.2.1 i.bs.2.2,.slice s2.1 s2.2.1 s2.2.2,.slice i.fs.1 i.fs.2.1 i.fs.2.2,.int .i64 t.born] ty_dustcartref02_Heap true)):=by
      simp[AX.st1,hg2.hp]
    simp only[Option.bind_some,Nat.zero_add,h.ld1',e1,a1,hg.ld1',w,e2,a2,est]
  · have:i.hb≠j:=fun e=>hn (by rw[← e]; exact i.hb_mem)
    rw[List.getElem?_set_ne this,List.getElem?_append_left hj]
  · rcases RI.mem_l.1 hj with hj | hj | hj | hj | hj
    · exact .inl (by rw[hj]; exact i.hb_mem)
    · exact .inl (RI.mem_l.2 (.inr (.inl hj)))
    · exact .inr (hB _ hj)
    · exact .inl (RI.mem_l.2 (.inr (.inr (.inr (.inl hj)))))
    · exact .inl (RI.mem_l.2 (.inr (.inr (.inr (.inr (hsub _ hj))))))
  · rw[List.getElem?_set_ne (Ne.symm hne),List.getElem?_append_left hj]
theorem rput_l0_to (k:Nat) (h:RAt σ i t) (hn:t.ob.length≤5000) {q:Nat} {a:Int} (hq:ldI .i64 σ q 0=some a):∀ (n x f:Nat),x+n=t.ob.length→n<f→d_ref02_Heap_put_l0 k f (rptr i) q (x:Int) σ=some (.exit 0,[.int .i64 ((x+rPos (t.ob.drop x) a:Nat):Int)],σ)
  | 0,x,0,hx,hf=>by omega
  | 0,x,f+1,hx,hf=>by
    rw[d_ref02_Heap_put_l0_eq,b_ref02_Heap_put_l0,List.drop_eq_nil_of_le (by omega)]
    simp only[Option.bind_some,Nat.zero_add,h.ld1',decide_eq_false (show ¬ (x:Int)<((t.ob.length:Nat):Int) by omega),cond_false,rPos,Nat.add_zero]
  | n+1,x,0,hx,hf=>by omega
  | n+1,x,f+1,hx,hf=>by
    have hxl:x<t.ob.length:=by omega
    obtain ⟨b,e,hc,L⟩:=h.obj hxl
    have L:=L (by rw[h.ol]; exact hxl)
    have qx:(0≤(x:Int)∧(x:Int)<((t.ob.length:Nat):Int))=True:=eq_true (by omega)
    have w1:w64 ((x:Int)+1)=((x+1:Nat):Int):=w64_in (by unfold inI; omega)
    rw[d_ref02_Heap_put_l0_eq,b_ref02_Heap_put_l0,List.drop_eq_getElem_cons hxl,rPos]
    simp only[Option.bind_some,Nat.zero_add,Nat.add_zero,h.ld1',decide_eq_true (show (x:Int)<((t.ob.length:Nat):Int) by omega),cond_true,qx,if_true,e,Int.toNat_natCast,L.l0,hq]
    by_cases g:t.ob[x].addr<a
    · rw[decide_eq_true g,if_pos g]
      simp only[cond_true,w1]
      rw[rput_l0_to k h hn hq n (x+1) f (by omega) (by omega),show x+1+rPos (t.ob.drop (x+1)) a=x+(rPos (t.ob.drop (x+1)) a+1) from by omega]
    · rw[decide_eq_false g,if_neg g]
      simp only[cond_false,Nat.add_zero]
theorem getElem_ins {α:Type} (l:List α) (n:Nat) (hn:n≤l.length) (a:α) (y:Nat) (hy:y<(l.take n++a::l.drop n).length):(l.take n++a::l.drop n)[y]=if h:y<n then l[y] else if h2:y=n then a else l[y-1]'(by simp at hy; omega):=by
  have hl:(l.take n).length=n:=by rw[List.length_take]; omega
  split
  · rename_i h
    rw[List.getElem_append_left (by omega),List.getElem_take]
  · split
    · rename_i h h2
      subst h2
      rw[List.getElem_append_right (by omega)]
      simp only[hl,Nat.sub_self,List.getElem_cons_zero]
    · rename_i h h2
      obtain ⟨d,rfl⟩:∃ d,y=n+1+d:=⟨y-n-1,by omega⟩
      rw[List.getElem_append_right (by omega)]
      simp only[hl,show n+1+d-n=d+1 from by omega,List.getElem_cons_succ,List.getElem_drop]
      congr 1
      omega
theorem rput_to (k:Nat) (hk:5000≤k) (h:RAt σ i t) (hn:t.ob.length≤4900) (o:RO) (p:SlV × SlV) (hp1:IntsG σ p.1 o.refs) (hp2:IntsG σ p.2 o.data) (hpl:∀ j,j ∈ hs p.1∨j ∈ hs p.2→j<σ.length∧j ∉ i.l) (hpn:(hs p.1++hs p.2).Nodup):
    ∃ σ' os',d_ref02_Heap_put (k+1) (rptr i) o.addr o.id o.r o.d o.k p.1 p.2 o.pin σ=some (.tuple #[],σ')∧RAt σ' { i with os:=os',om:=i.om.take (rPos t.ob o.addr)++p::i.om.drop (rPos t.ob o.addr) } { t with ob:=rIns t.ob o } ∧
      (∀ j,j<σ.length→j≠i.hb→σ'[j]?=σ[j]?)∧σ.length≤σ'.length∧(∀ a,os'.1=some a→σ.length≤a.block)∧(∀ j,j ∈ RI.l { i with os:=os',om:=i.om.take (rPos t.ob o.addr)++p::i.om.drop (rPos t.ob o.addr) }→j ∈ i.l∨j ∈ hs p.1∨j ∈ hs p.2∨σ.length≤j):=by
  have sep:=h.sep
  have hol:=h.ol
  obtain ⟨n,hN⟩:∃ n,rPos t.ob o.addr=n:=⟨_,rfl⟩
  have hnl:n≤t.ob.length:=by rw[← hN]; exact rPos_le _ _
  obtain ⟨B,hB⟩:∃ B,AObj.cells (roCells o p) ty_dustcartref02_Object true=B:=⟨_,rfl⟩
  have hb:=h.app [B]
  have lq:∀ (τ:AMem) (x:Nat),ldI .i64 (σ++([B]++τ)) σ.length x=((roCells o p)[x]?).bind (toI .i64):=fun τ x=>by rw[← hB]; simp[ldI,ld1]
  have lqs:∀ (τ:AMem) (x:Nat),ldS (σ++([B]++τ)) σ.length x=((roCells o p)[x]?).bind toS:=fun τ x=>by rw[← hB]; simp[ldS,ld1]
  have lqb:∀ (τ:AMem) (x:Nat),ldB (σ++([B]++τ)) σ.length x=((roCells o p)[x]?).bind toB:=fun τ x=>by rw[← hB]; simp[ldB,ld1]
  have e0:=rput_l0_to k hb (by show t.ob.length≤5000; omega) (q:=σ.length) (a:=o.addr) (by have:=lq [] 0; rw[List.append_nil] at this; rw[this]; rfl) t.ob.length 0 k (by omega) (by omega)
  rw[List.drop_zero,Nat.zero_add,hN] at e0
  have e0':d_ref02_Heap_put_l0 k k (rptr i) σ.length 0 (σ++[B])=_:=e0
  obtain ⟨src1,e1,s1,τ1,a1,sl1,b1⟩:=append_part szO byO zzO rfl rfl (by decide) (by decide) (by decide) (σ++[B]) [] (none,0,0) 0 [] (SlAt.nil _ _ _) (by intro a ha; cases ha) (by rw[List.append_nil]; exact hb.ob) 0 n (by omega) hnl (by omega) none (some (.int .i64 (n:Int))) (.inr ⟨rfl,rfl⟩) (.inl rfl)
  rw[Nat.zero_mul,List.drop_zero,Nat.sub_zero,List.nil_append,Nat.zero_add,(obRow_split t.ob i.om hol n hnl).1] at sl1
  rw[List.append_nil] at e1 a1
  obtain ⟨s2,τ2,a2,sl2,b2⟩:=push_behind szO byO zzO rfl rfl (by decide) (by decide) (by decide) (σ++[B]) τ1 s1 n _ 1 1 (roCells o p) ty_dustcartref02_Object (by omega) (by decide) rfl sl1 b1
  have a2':appendD P ty_dustcartref02_Object (s1.1,s1.2.1,s1.2.2) (some ⟨(σ++[B]++τ1).length,0,none⟩,1,1) (σ++[B]++τ1++[AObj.cells [.int .i64 o.addr,.int .i64 o.id,.int .i64 o.r,.int .i64 o.d,.int .i64 o.k,.slice p.1.1 p.1.2.1 p.1.2.2,.slice p.2.1 p.2.2.1 p.2.2.2,.bool o.pin] ty_dustcartref02_Object true])=some (s2,σ++[B]++τ2):=a2
  have hg2:=hb.app τ2
  obtain ⟨src3,e3,s3,τ3,a3,sl3,b3⟩:=append_part szO byO zzO rfl rfl (by decide) (by decide) (by decide) (σ++[B]) τ2 s2 (n+1) _ sl2 b2 hg2.ob n t.ob.length hnl (Nat.le_refl _) (by omega) (some (.int .i64 (n:Int))) none (.inl rfl) (.inr ⟨rfl,rfl⟩)
  rw[(obRow_split t.ob i.om hol n hnl).2,List.take_of_length_le (l:=obRow (t.ob.drop n) (i.om.drop n)) (by rw[obRow_len _ _ (by simp; omega),List.length_drop]; exact Nat.le_refl _),List.append_assoc (obRow (t.ob.take n) (i.om.take n)) (roCells o p),show roCells o p++obRow (t.ob.drop n) (i.om.drop n)=obRow (o::t.ob.drop n) (p::i.om.drop n) from rfl,← obRow_app _ _ _ _ (by simp; omega)] at sl3
  have hins:rIns t.ob o=t.ob.take n++o::t.ob.drop n:=by unfold rIns; rw[hN]
  have hlen:(rIns t.ob o).length=n+1+(t.ob.length-n):=by rw[hins]; simp; omega
  rw[← hins,← hlen,List.append_assoc] at sl3
  have hg3:=h.app ([B]++τ3)
  have hlt:=h.lt
  have hin:∀ {j},j ∈ i.l→j<σ.length:=fun hj=>hlt _ hj
  have hB3:∀ j ∈ hs s3,σ.length≤j:=fun j hj=>by have:=mem_hs_lt b3 hj; simp at this; omega
  have mA:∀ j ∈ hs i.bs,j<σ.length:=fun j hj=>hin (RI.mem_l.2 (.inr (.inl hj)))
  have mC:∀ j ∈ hs i.fs,j<σ.length:=fun j hj=>hin (RI.mem_l.2 (.inr (.inr (.inr (.inl hj)))))
  have mD:∀ j ∈ omL i.om,j<σ.length:=fun j hj=>hin (RI.mem_l.2 (.inr (.inr (.inr (.inr hj)))))
  have mh:=hin i.hb_mem
  have mem_om:∀ j,j ∈ omL (i.om.take n++p::i.om.drop n)↔j ∈ omL i.om∨j ∈ hs p.1∨j ∈ hs p.2:=by
    intro j
    rw[omL_app,omL_cons,omL_split i.om n]
    simp only[List.mem_append]
    constructor
    · rintro (h | (h | h) | h)
      · exact .inl (.inl h)
      · exact .inr (.inl h)
      · exact .inr (.inr h)
      · exact .inl (.inr h)
    · rintro ((h | h) | h | h)
      · exact .inl h
      · exact .inr (.inr h)
      · exact .inr (.inl (.inl h))
      · exact .inr (.inl (.inr h))
  have hnd:(omL (i.om.take n++p::i.om.drop n)).Nodup:=by
    have hD:=sep.D
    rw[omL_split i.om n] at hD
    obtain ⟨d1,d2,d3⟩:=List.nodup_append.1 hD
    have out:∀ j,j ∈ hs p.1++hs p.2→j ∉ omL i.om:=fun j hj hm=>(hpl j (List.mem_append.1 hj)).2 (RI.mem_l.2 (.inr (.inr (.inr (.inr hm)))))
    rw[omL_app,omL_cons]
    refine List.nodup_append.2 ⟨d1,List.nodup_append.2 ⟨hpn,d2, ?_⟩, ?_⟩
    · intro a ha b hb' e
      subst e
      exact out a ha (by rw[omL_split i.om n]; exact List.mem_append.2 (.inr hb'))
    · intro a ha b hb' e
      subst e
      rcases List.mem_append.1 hb' with hb' | hb'
      · exact out a hb' (by rw[omL_split i.om n]; exact List.mem_append.2 (.inl ha))
      · exact d3 a ha a hb' rfl
  have pout:∀ {j},j ∈ omL (i.om.take n++p::i.om.drop n)→j<σ.length:=fun hj=>by
    rcases (mem_om _).1 hj with hj | hj
    · exact mD _ hj
    · exact (hpl _ hj).1
  have pne:∀ {j},j ∈ i.hb::(hs i.bs++hs i.fs)→j ∉ omL (i.om.take n++p::i.om.drop n):=fun {j} hj hm=>by
    rcases (mem_om _).1 hm with hm | hm
    · rcases List.mem_cons.1 hj with e | hj
      · exact sep.hD (e ▸ hm)
      · rcases List.mem_append.1 hj with hj | hj
        · exact sep.AD _ hj hm
        · exact sep.CD _ hj hm
    · refine (hpl _ hm).2 ?_
      rcases List.mem_cons.1 hj with e | hj
      · rw[e]; exact i.hb_mem
      · rcases List.mem_append.1 hj with hj | hj
        · exact RI.mem_l.2 (.inr (.inl hj))
        · exact RI.mem_l.2 (.inr (.inr (.inr (.inl hj))))
  rw[hN]
  have sep':Sep { i with os:=s3,om:=i.om.take n++p::i.om.drop n }:=
    { hA:=sep.hA,hB:=fun hh=>Nat.not_lt.2 (hB3 _ hh) mh,hC:=sep.hC,hD:=fun hh=>pne (List.mem_cons_self) hh,
      AB:=fun a ha hh=>by have:=hB3 _ hh; have:=mA _ ha; omega,AC:=sep.AC,AD:=fun a ha hh=>pne (List.mem_cons_of_mem _ (List.mem_append.2 (.inl ha))) hh,
      BC:=fun a ha hh=>by have:=hB3 _ ha; have:=mC _ hh; omega,BD:=fun a ha hh=>by have:=hB3 _ ha; have:=pout hh; omega,CD:=fun a ha hh=>pne (List.mem_cons_of_mem _ (List.mem_append.2 (.inr ha))) hh,D:=hnd }
  have hlt2:∀ j ∈ RI.l { i with os:=s3,om:=i.om.take n++p::i.om.drop n },j<(σ++([B]++τ3)).length:=by
    intro j hj
    rcases RI.mem_l.1 hj with hj | hj | hj | hj | hj
    · have hj':j=i.hb:=hj
      rw[hj',List.length_append]; omega
    · have:=mA _ hj; simp; omega
    · obtain ⟨a,ha,rfl⟩:=mem_hs.1 hj; exact sl3.lt a ha
    · have:=mC _ hj; simp; omega
    · have:=pout hj; simp; omega
  have hinn:∀ (y:Nat) (h1:y<(rIns t.ob o).length) (h2:y<(i.om.take n++p::i.om.drop n).length),IntsG (σ++([B]++τ3)) (i.om.take n++p::i.om.drop n)[y].1 (rIns t.ob o)[y].refs∧IntsG (σ++([B]++τ3)) (i.om.take n++p::i.om.drop n)[y].2 (rIns t.ob o)[y].data:=by
    intro y h1 h2
    simp only[hins] at h1 ⊢
    rw[getElem_ins t.ob n hnl o y h1,getElem_ins i.om n (by omega) p y h2]
    have hl1:(t.ob.take n++o::t.ob.drop n).length=t.ob.length+1:=by simp; omega
    by_cases c1:y<n
    · simp only[c1,dite_true]
      exact hg3.inn y (by omega) (by omega)
    · by_cases c2:y=n
      · simp only[c1,c2,dite_false,dite_true,Nat.lt_irrefl]
        exact ⟨hp1.app _,hp2.app _⟩
      · simp only[c1,c2,dite_false]
        exact hg3.inn (y-1) (by omega) (by omega)
  have hR:=RAt.newHp (i:={ i with os:=s3,om:=i.om.take n++p::i.om.drop n }) (t:={ t with ob:=rIns t.ob o }) hg3.bl sl3 hg3.fw (by show (i.om.take n++p::i.om.drop n).length=(rIns t.ob o).length; rw[hlen]; simp; omega) hinn sep' hlt2
  refine ⟨_,s3, ?_,hR,fun j hj hne=>?_,by simp,fun a ha=>by have:=b3 a ha; simp at this; omega,fun j hj=>?_⟩
  · rw[d_ref02_Heap_put_eq,b_ref02_Heap_put]
    have est:AX.st1 (σ++([B]++τ3)) i.hb 1 (.slice s3.1 s3.2.1 s3.2.2)=some ((σ++([B]++τ3)).set i.hb (.cells [.slice i.bs.1 i.bs.2.1 i.bs.2.2,.slice s3.1 s3.2.1 s3.2.2,.slice i.fs.1 i.fs.2.1 i.fs.2.2,.int .i64 t.born] ty_dustcartref02_Heap true)):=by
      have hh:=hg3.hp
      generalize σ++([B]++τ3)=μ at hh ⊢
      simp[AX.st1,hh]
    have c0:∀ τ,ldI .i64 (σ++[B]++τ) σ.length 0=some o.addr:=fun τ=>by rw[List.append_assoc,lq]; rfl
    have c1:∀ τ,ldI .i64 (σ++[B]++τ) σ.length 1=some o.id:=fun τ=>by rw[List.append_assoc,lq]; rfl
    have c2:∀ τ,ldI .i64 (σ++[B]++τ) σ.length 2=some o.r:=fun τ=>by rw[List.append_assoc,lq]; rfl
    have c3:∀ τ,ldI .i64 (σ++[B]++τ) σ.length 3=some o.d:=fun τ=>by rw[List.append_assoc,lq]; rfl
    have c4:∀ τ,ldI .i64 (σ++[B]++τ) σ.length 4=some o.k:=fun τ=>by rw[List.append_assoc,lq]; rfl
    have c5:∀ τ,ldS (σ++[B]++τ) σ.length 5=some (p.1.1,p.1.2.1,p.1.2.2):=fun τ=>by rw[List.append_assoc,lqs]; rfl
    have c6:∀ τ,ldS (σ++[B]++τ) σ.length 6=some (p.2.1,p.2.2.1,p.2.2.2):=fun τ=>by rw[List.append_assoc,lqs]; rfl
    have c7:∀ τ,ldB (σ++[B]++τ) σ.length 7=some o.pin:=fun τ=>by rw[List.append_assoc,lqb]; rfl
    have hBox:AObj.cells [.int .i64 o.addr,.int .i64 o.id,.int .i64 o.r,.int .i64 o.d,.int .i64 o.k,.slice p.1.1 p.1.2.1 p.1.2.2,.slice p.2.1 p.2.2.1 p.2.2.2,.bool o.pin] ty_dustcartref02_Object true=B:=hB
    rw[← List.append_assoc] at est
    simp only[allocK,hBox,e0',Option.bind_some,if_true,u_i_eq,Nat.zero_add,Nat.add_assoc,Nat.reduceAdd,hb.ld1',e1,a1,c0,c1,c2,c3,c4,c5,c6,c7]
    rw[← hBox] at a2' ⊢
    simp only[a2',Option.bind_some]
    rw[hBox]
    simp only[hg2.ld1',e3,a3,Option.bind_some,est]
    simp only[List.append_assoc]
  · rw[List.getElem?_set_ne (Ne.symm hne),List.getElem?_append_left hj]
  · rcases RI.mem_l.1 hj with hj | hj | hj | hj | hj
    · exact .inl (by rw[hj]; exact i.hb_mem)
    · exact .inl (RI.mem_l.2 (.inr (.inl hj)))
    · exact .inr (.inr (.inr (hB3 _ hj)))
    · exact .inl (RI.mem_l.2 (.inr (.inr (.inr (.inl hj)))))
    · rcases (mem_om _).1 hj with hj | hj | hj
      · exact .inl (RI.mem_l.2 (.inr (.inr (.inr (.inr hj)))))
      · exact .inr (.inl hj)
      · exact .inr (.inr (.inl hj))
end
end Go.Proofs.YtlaplcglpnlieaaGreat
