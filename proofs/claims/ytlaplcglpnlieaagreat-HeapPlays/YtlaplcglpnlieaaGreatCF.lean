/-
  Gaps.
-/
import Derived.Test.YtlaplcglpnlieaaGreatCE
set_option linter.unusedVariables false
set_option linter.unusedSimpArgs false
namespace Go.Proofs.YtlaplcglpnlieaaGreat
open Go Go.AX
noncomputable local instance qCF:Quiet:=fullQuiet
local instance nCF:Kn:=⟨true⟩
variable {σ:AMem} {i:HIds} {m:HM}
def runRow:List (Nat × Nat)→List Value
  | []=>[]
  | r::l=>.int .i64 (r.1:Int) :: .int .i64 (r.2:Int)::runRow l
theorem runRow_len:∀ l,(runRow l).length=l.length*2
  | []=>rfl
  | r::l=>by simp[runRow,runRow_len l,Nat.add_mul]
theorem runRow_app:∀ l l',runRow (l++l')=runRow l++runRow l'
  | [],l'=>rfl
  | r::l,l'=>by simp[runRow,runRow_app l l']
theorem runRow_get:∀ (l:List (Nat × Nat)) (x:Nat),x<l.length→(runRow l)[x*2]?=some (.int .i64 ((l.getD x (0,0)).1:Int))∧(runRow l)[x*2+1]?=some (.int .i64 ((l.getD x (0,0)).2:Int))
  | [],x,h=>by simp at h
  | r::l,0,h=>by simp[runRow]
  | r::l,x+1,h=>by
    have ih:=runRow_get l x (by simpa using h)
    rw[show (x+1)*2=x*2+1+1 from by omega]
    simpa [runRow,List.getElem?_cons_succ] using ih
def gap1 (a e:Nat):List (Nat × Nat):=if a<e then [(a,e-a)] else []
def gapsT (m:HM):List Nat→Nat→List (Nat × Nat) × Nat
  | [],a=>([],a)
  | j::L,a=>(gap1 a (2*j)++(gapsT m L (2*j+sz m j)).1,(gapsT m L (2*j+sz m j)).2)
def gapsB (m:HM) (b:Nat):List (Nat × Nat):=(gapsT m (starts m (32*b) 32) (64*b)).1++gap1 (gapsT m (starts m (32*b) 32) (64*b)).2 (64*b+64)
def gapsM (m:HM) (b:Nat):List (Nat × Nat):=if 1≤b∧(m.bls.getD b (0,0)).1=1 then gapsB m b else []
theorem sz46:szOf P ty_api_Run=some 2:=by kernel_rfl
theorem by46:bytesOf P ty_api_Run=some 16:=by kernel_rfl
theorem zz46:zerosOf P ty_api_Run=some (.agg #[.int .i64 0,.int .i64 0]):=by kernel_rfl
structure GapSt (lo h5 h3:Nat) (σ:AMem) (a:Nat) (o:SlV) (R:List (Nat × Nat)):Prop where
  at_:σ[h5]?=some (.cells [.int .i64 (a:Int)] ty_int true)
  out:σ[h3]?=some (.cells [.slice o.1 o.2.1 o.2.2] sl_api_Run true)
  sl:SlAt ty_api_Run 2 σ o R.length (runRow R)
  new:∀ a,o.1=some a→lo≤a.block
  l5:h5<lo
  l3:h3<lo
  ne:h5≠h3
  ll:lo≤σ.length
theorem GapSt.like {lo h5 h3 a:Nat} {σ σ':AMem} {o:SlV} {R:List (Nat × Nat)} (h:GapSt lo h5 h3 σ a o R) (hs:∀ q,q<σ.length→σ'[q]?=σ[q]?) (hl:σ.length≤σ'.length):GapSt lo h5 h3 σ' a o R:=
  ⟨(hs _ (getElem?_lt h.at_)).trans h.at_,(hs _ (getElem?_lt h.out)).trans h.out,h.sl.like fun a ha=>hs _ (h.sl.lt a ha),h.new,h.l5,h.l3,h.ne,Nat.le_trans h.ll hl⟩
theorem gap_to (k:Nat) {lo h5 h3 a x:Nat} {o:SlV} {R:List (Nat × Nat)} (h:GapSt lo h5 h3 σ a o R) (hR:R.length≤5000) (ha:a≤5000) (hx:x≤5000):
    ∃ σ' o',d_heap_Heap_Gaps_c1 (k+1) (x:Int) (some ⟨h5,0,none⟩) (some ⟨h3,0,none⟩) σ=some (.tuple #[],σ')∧GapSt lo h5 h3 σ' a o' (R++gap1 a x)∧(∀ q,q<lo→q≠h3→σ'[q]?=σ[q]?)∧σ.length≤σ'.length:=by
  have lA:ldI .i64 σ h5 0=some (a:Int):=by simp[ldI,ld1,h.at_,toI]
  have lO:ldS σ h3 0=some (o.1,o.2.1,o.2.2):=by simp[ldS,ld1,h.out,toS]
  by_cases hc:a<x
  · obtain ⟨o1,σ1,e1,g1,s1⟩:=push_any sz46 by46 zz46 rfl rfl (by decide) (by decide) (by decide) σ o R.length (runRow R) 1 1 (runRow [(a,x-a)]) ty_api_Run (by omega) (by decide) rfl h.sl
    have e1':appendD P ty_api_Run (o.1,o.2.1,o.2.2) (some ⟨σ.length,0,none⟩,1,1) (σ++[AObj.cells [.int .i64 (a:Int),.int .i64 ((x-a:Nat):Int)] ty_api_Run true])=some (o1,σ1):=e1
    have hnO:∀ q,q<lo → ∀ a',o.1=some a'→a'.block≠q:=fun q hq a' ha'=>by have:=h.new a' ha'; omega
    have k3:=(g1.same h3 (getElem?_lt h.out) (hnO h3 h.l3)).trans h.out
    have k5:=(g1.same h5 (getElem?_lt h.at_) (hnO h5 h.l5)).trans h.at_
    obtain ⟨σ2,hσ2⟩:∃ σ2,σ1.set h3 (.cells [.slice o1.1 o1.2.1 o1.2.2] sl_api_Run true)=σ2:=⟨_,rfl⟩
    have est:st1 σ1 h3 0 (.slice o1.1 o1.2.1 o1.2.2)=some σ2:=by
      rw[← hσ2]; simp[st1,k3]
    have same2:∀ q,q≠h3→σ2[q]?=σ1[q]?:=fun q hq=>by rw[← hσ2,List.getElem?_set_ne (Ne.symm hq)]
    have hll:=h.ll
    have hn1:∀ a',o1.1=some a'→lo≤a'.block:=by
      intro a' ha'
      rcases g1.new with e | e
      · rw[e] at ha'; exact h.new a' ha'
      · have:=e a' ha'; omega
    refine ⟨σ2,o1, ?_,⟨(same2 _ h.ne).trans k5,by rw[← hσ2,List.getElem?_set_self (getElem?_lt k3)], ?_,hn1,h.l5,h.l3,h.ne, ?_⟩, ?_, ?_⟩
    · rw[d_heap_Heap_Gaps_c1_eq,b_heap_Heap_Gaps_c1]
      have q:decide ((x:Int)>(a:Int))=true:=decide_eq_true (by omega)
      have w:w64 ((x:Int)-(a:Int))=((x-a:Nat):Int):=by rw[w64_in (by unfold inI; omega)]; omega
      simp only[Option.bind_some,lA,q,cond_true,lO,allocK,w,e1',est,if_true]
    · unfold gap1
      rw[if_pos hc,runRow_app,List.length_append]
      exact s1.like fun a' ha'=>same2 _ (fun e=>by have:=hn1 a' ha'; have:=h.l3; omega)
    · rw[← hσ2]; have:=g1.len; simp; omega
    · intro q hq hne
      rw[same2 q hne,g1.same q (by omega) (hnO q hq)]
    · rw[← hσ2]; have:=g1.len; simp; omega
  · refine ⟨σ,o, ?_, ?_,fun _ _ _=>rfl,Nat.le_refl _⟩
    · rw[d_heap_Heap_Gaps_c1_eq,b_heap_Heap_Gaps_c1]
      have q:decide ((x:Int)>(a:Int))=false:=decide_eq_false (by omega)
      simp only[Option.bind_some,lA,q,cond_false,if_true]
    · unfold gap1
      rw[if_neg hc,List.append_nil]
      exact h
theorem Gaps_l0_to (k:Nat) (L:List Nat) (hL:∀ j ∈ L,Start m j) (hLl:L.length≤2048) (hwl:∀ j ∈ L,2*j+sz m j≤5000) {lo h5 h3 lo':Nat} (s:SlV) (hs3:∀ a,s.1=some a→a.block<lo∧a.block≠h3∧a.block≠h5) (hi:∀ j ∈ i.l,j<lo∧j≠h3∧j≠h5):∀ (n x f:Nat) (σ:AMem) (a:Nat) (o:SlV) (R:List (Nat × Nat)),HeapAt σ i m→GapSt lo h5 h3 σ a o R→IntsAt lo' σ s (addrs L)→R.length≤x→a≤5000→x+n=L.length→n<f →
    ∃ σ' o',d_heap_Heap_Gaps_l0 (k+3) f (hptr i) h5 h3 s.1 s.2.1 s.2.2 (L.length:Int) (x:Int) σ=some (.exit 0,[],σ')∧HeapAt σ' i m∧GapSt lo h5 h3 σ' (gapsT m (L.drop x) a).2 o' (R++(gapsT m (L.drop x) a).1)∧(∀ q,q<lo→q≠h3→q≠h5→σ'[q]?=σ[q]?)∧σ.length≤σ'.length∧(gapsT m (L.drop x) a).2≤5000∧(R++(gapsT m (L.drop x) a).1).length≤L.length
  | 0,x,0,σ,a,o,R,h,hg,hs,hr,ha,hx,hf=>by omega
  | 0,x,f+1,σ,a,o,R,h,hg,hs,hr,ha,hx,hf=>by
    rw[d_heap_Heap_Gaps_l0_eq,b_heap_Heap_Gaps_l0,List.drop_eq_nil_of_le (by omega)]
    have q:decide ((x:Int)<(L.length:Int))=false:=decide_eq_false (by omega)
    exact ⟨σ,o,by simp only[q,cond_false],h,by simpa [gapsT] using hg,fun _ _ _ _=>rfl,Nat.le_refl _,ha,by simp[gapsT]; omega⟩
  | n+1,x,0,σ,a,o,R,h,hg,hs,hr,ha,hx,hf=>by omega
  | n+1,x,f+1,σ,a,o,R,h,hg,hs,hr,ha,hx,hf=>by
    have al:(addrs L).length=L.length:=by simp[addrs]
    have hxl:x<L.length:=by omega
    have hst:=hL _ (List.getElem_mem hxl)
    have hle:=hwl _ (List.getElem_mem hxl)
    have hnt:=h.nt
    have hsj:=hst.1
    obtain ⟨b1,e1,hb1,c1,ldA⟩:=ints_at hs (x:=x) (by omega)
    subst e1
    rw[addrs_getD L hxl] at ldA
    obtain ⟨n1,n2,n3⟩:=hs3 _ rfl
    simp only at n1 n2 n3
    obtain ⟨σ1,o1,eG,g1,same1,len1⟩:=gap_to (k+2) hg (x:=2*L[x]) (by omega) ha (by omega)
    have eG':d_heap_Heap_Gaps_c1 (k+3) ((2*L[x]:Nat):Int) (some ⟨h5,0,none⟩) (some ⟨h3,0,none⟩) σ=_:=eG
    have h1:HeapAt σ1 i m:=h.like fun j hj=>same1 j (hi j hj).1 (hi j hj).2.1
    obtain ⟨τ2,e2⟩:=size_to k h1 hsj
    have g2:=g1.like (σ':=σ1++τ2) (fun q hq=>List.getElem?_append_left hq) (by simp)
    obtain ⟨σ3,hσ3⟩:∃ σ3,(σ1++τ2).set h5 (.cells [.int .i64 ((2*L[x]+sz m L[x]:Nat):Int)] ty_int true)=σ3:=⟨_,rfl⟩
    have est:st1 (σ1++τ2) h5 0 (.int .i64 ((2*L[x]+sz m L[x]:Nat):Int))=some σ3:=by
      rw[← hσ3]; simp[st1,g2.at_]
    have same3:∀ q,q≠h5→σ3[q]?=(σ1++τ2)[q]?:=fun q hq=>by rw[← hσ3,List.getElem?_set_ne (Ne.symm hq)]
    have hll:=g1.ll
    have l3:σ3.length=σ1.length+τ2.length:=by rw[← hσ3]; simp
    have g3:GapSt lo h5 h3 σ3 (2*L[x]+sz m L[x]) o1 (R++gap1 a (2*L[x])):=⟨by rw[← hσ3,List.getElem?_set_self (getElem?_lt g2.at_)],(same3 _ (Ne.symm g2.ne)).trans g2.out,
      g2.sl.like fun a ha=>same3 _ (fun e=>by have:=g2.new a ha; have:=g2.l5; omega),g2.new,g2.l5,g2.l3,g2.ne,by omega⟩
    have sameA:∀ q,q<lo→q≠h3→q≠h5→σ3[q]?=σ[q]?:=fun q p1 p2 p3=>by
      rw[same3 q p3,List.getElem?_append_left (by omega),same1 q p1 p2]
    have h3':HeapAt σ3 i m:=h.like fun j hj=>sameA j (hi j hj).1 (hi j hj).2.1 (hi j hj).2.2
    have s3:IntsAt lo' σ3 (some ⟨b1,0,none⟩,(addrs L).length,(addrs L).length) (addrs L):=.inr ⟨b1,hb1,rfl,fun e=>by rw[e] at al; simp at al; omega,by rw[sameA b1 n1 n2 n3]; exact c1⟩
    have hgl:(gap1 a (2*L[x])).length≤1:=by unfold gap1; split <;> simp
    obtain ⟨σ4,o4,e4,h4,g4,same4,len4,m4,m5⟩:=Gaps_l0_to k L hL hLl hwl (some ⟨b1,0,none⟩,(addrs L).length,(addrs L).length) hs3 hi n (x+1) f σ3 (2*L[x]+sz m L[x]) o1 (R++gap1 a (2*L[x])) h3' g3 s3 (by rw[List.length_append]; omega) hle (by omega) (by omega)
    have eT:gapsT m (L.drop x) a=(gap1 a (2*L[x])++(gapsT m (L.drop (x+1)) (2*L[x]+sz m L[x])).1,(gapsT m (L.drop (x+1)) (2*L[x]+sz m L[x])).2):=by
      rw[List.drop_eq_getElem_cons hxl]; rfl
    rw[eT]
    rw[List.append_assoc] at g4 m5
    refine ⟨σ4,o4, ?_,h4,g4,fun q p1 p2 p3=>(same4 q p1 p2 p3).trans (sameA q p1 p2 p3),by omega,m4,m5⟩
    rw[d_heap_Heap_Gaps_l0_eq,b_heap_Heap_Gaps_l0]
    have q:decide ((x:Int)<(L.length:Int))=true:=decide_eq_true (by omega)
    have w1:w64 ((x:Int)+1)=((x+1:Nat):Int):=w64_in (by unfold inI; omega)
    have w2:w64 (((2*L[x]:Nat):Int)+(sz m L[x]:Int))=((2*L[x]+sz m L[x]:Nat):Int):=by rw[w64_in (by unfold inI; omega)]; omega
    simp only[q,cond_true]
    rw[if_pos (by omega)]
    simp only[Option.bind_some,Nat.zero_add,Int.toNat_natCast,Nat.mul_one,ldA,eG',r_0_eq,e2,toI_int,w2,est,w1]
    exact e4
theorem Gaps_to (k:Nat) (hk:5000≤k) (h:HeapAt σ i m) (hI:Inv m) {b:Nat} (hb:b<m.bls.length):
    ∃ τ s,d_heap_Heap_Gaps (k+7) (hptr i) (b:Int) σ=some (.slice s.1 s.2.1 s.2.2,σ++τ)∧SlAt ty_api_Run 2 (σ++τ) s (gapsM m b).length (runRow (gapsM m b))∧(gapsM m b).length≤33 ∧ ∀ a,s.1=some a→σ.length≤a.block:=by
  have hu:d_heap_Heap_used (k+6) (hptr i) (b:Int) σ=_:=used_to (k+3) h hb
  unfold gapsM
  by_cases hc:1≤b∧(m.bls.getD b (0,0)).1=1
  rotate_left
  · rw[if_neg hc]
    refine ⟨[],(none,0,0), ?_,SlAt.nil _ _ _,by simp,by intro a ha; cases ha⟩
    rw[d_heap_Heap_Gaps_eq,b_heap_Heap_Gaps]
    simp only[hu,Option.bind_some,toB_bool,decide_eq_false hc,Bool.not_false,cond_true,List.append_nil]
  rw[if_pos hc]
  have hnt:=h.nt
  have hwl:=h.wl
  obtain ⟨σ1,hσ1⟩:∃ σ1,σ++[AObj.cells [.slice none 0 0] sl_api_Run true]=σ1:=⟨_,rfl⟩
  have l1:σ1.length=σ.length+1:=by rw[← hσ1]; simp
  obtain ⟨σ2,hσ2⟩:∃ σ2,σ1++[AObj.cells [.int .i64 ((64*b:Nat):Int)] ty_int true]=σ2:=⟨_,rfl⟩
  have est:st1 (σ1++[AObj.cells [.int .i64 0] ty_int true]) σ1.length 0 (.int .i64 ((64*b:Nat):Int))=some σ2:=by
    rw[← hσ2]; simp[st1]
  have l2:σ2.length=σ.length+2:=by rw[← hσ2]; simp; omega
  have h2:HeapAt σ2 i m:=hσ2 ▸ (hσ1 ▸ h.app _:HeapAt σ1 i m).app _
  obtain ⟨τ3,s,e3,i3⟩:=Objects_to k hk h2 hb
  have hL:∀ j ∈ starts m (32*b) 32,Start m j:=by
    intro j hj
    obtain ⟨a,b',c⟩:=mem_starts.1 hj
    exact ⟨by omega,c⟩
  have hLl:=starts_len m (32*b) 32
  have hlt:=h.lt
  have g0:GapSt (σ2++τ3).length σ1.length σ.length (σ2++τ3) (64*b) (none,0,0) []:=by
    refine { at_:=?_,out:=?_,sl:=SlAt.nil _ _ _,new:=(by intro a ha; cases ha),l5:=(by simp; omega),l3:=(by simp; omega),ne:=(by omega),ll:=Nat.le_refl _ }
    · rw[List.getElem?_append_left (by omega),← hσ2]; simp
    · rw[List.getElem?_append_left (by omega),← hσ2,List.getElem?_append_left (by omega),← hσ1]; simp
  obtain ⟨σ4,o4,e4,h4,g4,same4,len4,m4,m5⟩:=Gaps_l0_to (k+3) _ hL (by omega) (fun j hj=>by have:=hI.fit j (hL j hj); omega) s (fun a ha=>by have:=i3.ge a ha; simp only[List.length_append] at *; omega) (fun j hj=>by have:=hlt j hj; simp; omega)
    (starts m (32*b) 32).length 0 (k+6) (σ2++τ3) (64*b) (none,0,0) [] (h2.app τ3) g0 i3 (Nat.zero_le _) (by omega) (by omega) (by omega)
  rw[List.drop_zero,List.nil_append] at g4 m5
  rw[List.drop_zero] at m4
  obtain ⟨σ5,o5,e5,g5,same5,len5⟩:=gap_to (k+5) g4 (x:=64*b+64) (by omega) (by omega) (by omega)
  have hll:=g5.ll
  have hle:σ.length≤σ5.length:=by simp at hll; omega
  have eσ:σ5=σ++σ5.drop σ.length:=by
    apply List.ext_getElem?
    intro q
    by_cases hq:q<σ.length
    · rw[List.getElem?_append_left hq,same5 q (by simp; omega) (by omega),same4 q (by simp; omega) (by omega) (by omega),List.getElem?_append_left (by omega),← hσ2,List.getElem?_append_left (by omega),← hσ1,List.getElem?_append_left hq]
    · rw[List.getElem?_append_right (by omega),List.getElem?_drop,show σ.length+(q-σ.length)=q from by omega]
  refine ⟨σ5.drop σ.length,o5, ?_,by rw[← eσ]; exact g5.sl, ?_,fun a ha=>by have:=g5.new a ha; simp at this; omega⟩
  · have hl:=i3.len
    rw[show (addrs (starts m (32*b) 32)).length=(starts m (32*b) 32).length from by simp[addrs]] at hl
    rw[← eσ,d_heap_Heap_Gaps_eq,b_heap_Heap_Gaps]
    have w1:w64 ((b:Int)*64)=((64*b:Nat):Int):=by rw[w64_in (by unfold inI; omega)]; omega
    have w2:w64 ((b:Int)+1)=((b+1:Nat):Int):=by rw[w64_in (by unfold inI; omega)]; omega
    have w3:w64 (((b+1:Nat):Int)*64)=((64*b+64:Nat):Int):=by rw[w64_in (by unfold inI; omega)]; omega
    have lO:ldS σ5 σ.length 0=some (o5.1,o5.2.1,o5.2.2):=by simp[ldS,ld1,g5.out,toS]
    have e4':d_heap_Heap_Gaps_l0 (k+6) (k+6) (hptr i) σ1.length σ.length s.1 (starts m (32*b) 32).length s.2.2 (((starts m (32*b) 32).length:Nat):Int) 0 (σ2++τ3)=some (.exit 0,[],σ4):=by rw[hl] at e4; exact e4
    simp only[hu,Option.bind_some,toB_bool,decide_eq_true hc,Bool.not_true,cond_false,allocK,hσ1,w1,est,e3,toS,hl,e4',if_true,w2,w3,e5,r_0_eq,lO]
  · unfold gapsB
    rw[List.length_append]
    have:(gap1 (gapsT m (starts m (32*b) 32) (64*b)).2 (64*b+64)).length≤1:=by unfold gap1; split <;> simp
    omega
end Go.Proofs.YtlaplcglpnlieaaGreat
