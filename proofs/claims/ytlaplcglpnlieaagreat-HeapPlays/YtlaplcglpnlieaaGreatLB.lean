/-
  Block 0; used blocks; objects of a used block; Lines.
-/
import Derived.Test.YtlaplcglpnlieaaGreatCS
set_option linter.unusedVariables false
set_option linter.unusedSimpArgs false
namespace Go.Proofs.YtlaplcglpnlieaaGreat
open Go Go.AX
noncomputable local instance qLB:Quiet:=fullQuiet
local instance nLB:Kn:=⟨true⟩
variable {σ:AMem} {i:HIds} {m:HM}
def B0 (m:HM):Prop:=(m.bls.getD 0 (0,0)).1=0
def BK (m:HM) (r:Int × HM):Prop:=(r.2.bls.getD 0 (0,0)).1=(m.bls.getD 0 (0,0)).1
theorem bk_if {c:Prop} [Decidable c] {r r':Int × HM} (h:c→BK m r) (h':¬ c→BK m r'):BK m (if c then r else r'):=by
  split
  · exact h ‹_›
  · exact h' ‹_›
theorem bk_same {r:Int × HM} (h:r.2.bls=m.bls):BK m r:=by unfold BK; rw[h]
theorem claimR_bk (m:HM) (b c x y x' y':Int):BK m (claimR m b c x y x' y'):=by
  unfold claimR
  refine bk_if (fun h1=>bk_if (fun _=>?_) fun _=>rfl) fun _=>rfl
  unfold BK
  rw[List.getD_eq_getElem?_getD,List.getElem?_set,if_neg (by omega),← List.getD_eq_getElem?_getD,clM_getD _ _ _ _ _ _ (by omega)]
theorem doR_bk (m:HM) (x:ActV):BK m (doR m x):=by
  unfold doR
  refine bk_if (fun _=>claimR_bk _ _ _ _ _ _ _) fun _=>bk_if (fun _=>claimR_bk _ _ _ _ _ _ _) fun _=>bk_if (fun _=>?_) fun _=>bk_if (fun _=>?_) fun _=>bk_if (fun _=>?_) fun _=>bk_if (fun _=>?_) fun _=>bk_if (fun _=>?_) fun _=>bk_if (fun _=>?_) fun _=>bk_if (fun _=>?_) fun _=>bk_if (fun _=>?_) fun _=>bk_if (fun _=>?_) fun _=>bk_if (fun _=>?_) fun _=>bk_if (fun _=>rfl) fun _=>rfl
  · unfold releaseR
    refine bk_if (fun hh=>bk_if (fun _=>?_) fun _=>rfl) fun _=>rfl
    obtain ⟨n,e,h1,_⟩:=heldM_zero hh
    unfold BK
    rw[relM_getD,if_neg (by omega)]
  · unfold retagR
    exact bk_if (fun hh=>tagM_getD _ _ _ _ _) fun _=>rfl
  · apply bk_same
    unfold placeR
    split
    · split <;> rfl
    · rfl
  · unfold killR; exact bk_if (fun _=>rfl) fun _=>rfl
  · unfold moveR; exact bk_if (fun _=>bk_if (fun _=>rfl) fun _=>rfl) fun _=>rfl
  · unfold setRefR; exact bk_if (fun _=>bk_if (fun _=>rfl) fun _=>rfl) fun _=>rfl
  · unfold setDataR; exact bk_if (fun _=>rfl) fun _=>rfl
  · unfold pokeR; refine bk_if (fun _=>?_) fun _=>rfl
    split
    · rfl
    · exact bk_if (fun _=>rfl) fun _=>rfl
  · unfold pinR; exact bk_if (fun _=>rfl) fun _=>rfl
  · unfold pinR; exact bk_if (fun _=>rfl) fun _=>rfl
theorem B0.do (h:B0 m) (x:ActV):B0 (doR m x).2:=(doR_bk m x).trans h
theorem B0.run:∀ (l:List ActV) (m:HM),B0 m→B0 (runM m l)
  | [],m,h=>h
  | x::l,m,h=>B0.run l _ (h.do x)
theorem B0.new (n:Nat):B0 (newM n):=by
  unfold B0 newM
  simp only[List.getD_eq_getElem?_getD,List.getElem?_replicate]
  split <;> rfl
theorem B0.made {b:Int} {l:List ActV} (h:madeM b l=some m):B0 m:=by
  unfold madeM at h
  split at h
  · cases h; exact B0.run l _ (B0.new _)
  · cases h
theorem used_to (k:Nat) (h:HeapAt σ i m) {b:Nat} (hb:b<m.bls.length):d_heap_Heap_used (k+3) (hptr i) (b:Int) σ=some (.bool (decide (1≤b∧(m.bls.getD b (0,0)).1=1)),σ):=by
  rw[d_heap_Heap_used_eq,b_heap_Heap_used]
  simp only[there_h _ h,Option.bind_some,toB_bool]
  by_cases h1:1≤b
  · rw[decide_eq_true (show 1≤(b:Int)∧(b:Int)<((m.bls.length:Nat):Int) by omega)]
    simp only[cond_true,Option.bind_some,Nat.zero_add,Nat.add_zero,h.ld0]
    rw[if_pos (by omega)]
    simp only[Option.bind_some,Int.toNat_natCast,Nat.zero_add,(h.ldB hb).1,h1,true_and]
    rfl
  · rw[decide_eq_false (show ¬ (1≤(b:Int)∧(b:Int)<((m.bls.length:Nat):Int)) by omega)]
    simp[h1]
theorem in_used (hI:Inv m) (hI2:Inv2 m) {b:Nat} (hs:(m.bls.getD b (0,0)).1=1) {j:Nat} (hj:Start m j) (h1:32*b≤j) (h2:j<32*b+32):sz m j≤32∧2*j+sz m j≤64*b+64:=by
  have hz:=hI.size hj
  obtain ⟨k1,k2⟩:=hI2.kind j hj
  have e:2*j/64=b:=by omega
  rw[e] at k1 k2
  by_cases hw:sz m j≤32
  · have:=(k1 hw).2
    omega
  · have:=(k2 (by omega)).1
    rw[hs] at this
    exact absurd this (by decide)
theorem tdivN (a b:Nat):((a:Nat):Int).tdiv ((b:Nat):Int)=((a/b:Nat):Int):=rfl
theorem tmodN (a b:Nat):((a:Nat):Int).tmod ((b:Nat):Int)=((a % b:Nat):Int):=rfl
theorem set_same {α:Type} {l:List α} {q:Nat} {x:α} (h:l[q]?=some x):l.set q x=l:=by
  apply List.ext_getElem?
  intro p
  rw[List.getElem?_set]
  split
  · rename_i e
    subst e
    rw[if_pos (getElem?_lt h),h]
  · rfl
def lineIn (m:HM) (j l:Nat):Prop:=2*j % 64/8≤l∧l≤(2*j % 64+sz m j-1)/8
theorem Lines_l1_to (k:Nat) (hb:Nat) (e2 hi:Nat) (he:e2<64) (hh:e2/8=hi):∀ (n x f:Nat) (σ:AMem) (bs:List Bool),σ[hb]?=some (.cells (boRow bs) ty_bool true)→bs.length=8→x+n=hi+1→n<f →
    ∃ bs',d_heap_Heap_Lines_l1 k f hb 8 (e2:Int) (x:Int) σ=some (.exit 2,[],σ.set hb (.cells (boRow bs') ty_bool true))∧bs'.length=8∧(∀ t,bs'.getD t false=(bs.getD t false || decide (x≤t∧t≤hi)))
  | 0,x,0,σ,bs,hc,hl,hx,hf=>by omega
  | 0,x,f+1,σ,bs,hc,hl,hx,hf=>by
    rw[d_heap_Heap_Lines_l1_eq,b_heap_Heap_Lines_l1]
    have w:w64 ((e2:Int).tdiv 8)=(hi:Int):=by rw[show ((e2:Int)).tdiv 8=((e2/8:Nat):Int) from rfl,hh]; exact w64_in (by unfold inI; omega)
    have q:decide ((x:Int)≤(hi:Int))=false:=decide_eq_false (by omega)
    refine ⟨bs, ?_,hl,fun t=>?_⟩
    · simp only[w,q,cond_false]
      rw[if_neg (by decide),set_same hc]
    · rw[decide_eq_false (by omega),Bool.or_false]
  | n+1,x,0,σ,bs,hc,hl,hx,hf=>by omega
  | n+1,x,f+1,σ,bs,hc,hl,hx,hf=>by
    have hx8:x<bs.length:=by omega
    have hs:st1 σ hb x (.bool true)=_:=stB_at true hc hx8
    have hlt:=getElem?_lt hc
    obtain ⟨bs',e,l',g⟩:=Lines_l1_to k hb e2 hi he hh n (x+1) f (σ.set hb (.cells (boRow (bs.set x true)) ty_bool true)) (bs.set x true) (List.getElem?_set_self hlt) (by simpa using hl) (by omega) (by omega)
    refine ⟨bs', ?_,l',fun t=>?_⟩
    · rw[d_heap_Heap_Lines_l1_eq,b_heap_Heap_Lines_l1]
      have w:w64 ((e2:Int).tdiv 8)=(hi:Int):=by rw[show ((e2:Int)).tdiv 8=((e2/8:Nat):Int) from rfl,hh]; exact w64_in (by unfold inI; omega)
      have q:decide ((x:Int)≤(hi:Int))=true:=decide_eq_true (by omega)
      have w1:w64 ((x:Int)+1)=((x+1:Nat):Int):=w64_in (by unfold inI; omega)
      simp only[w,q,cond_true]
      rw[if_neg (by decide),if_pos (by omega)]
      simp only[Int.toNat_natCast,Nat.zero_add,Nat.mul_one,hs,Option.bind_some,w1,e,List.set_set]
    · rw[g t,getD_setB bs x t true hx8]
      by_cases ht:t=x
      · subst ht; simp; omega
      · rw[if_neg ht]
        congr 1
        exact decide_eq_decide.2 (by omega)
theorem Lines_l0_to (k:Nat) (hk:100≤k) (hI:Inv m) (hI2:Inv2 m) {b:Nat} (hbl:b<m.bls.length) (hst:(m.bls.getD b (0,0)).1=1) (hb:Nat) (hnb:hb ∉ i.l) (L:List Nat) (hL:∀ j ∈ L,Start m j∧32*b≤j∧j<32*b+32) (hLl:L.length≤32) (lo:Nat) (s:SlV) (hsb:∀ a,s.1=some a→a.block≠hb):∀ (n x f:Nat) (σ:AMem) (bs:List Bool),HeapAt σ i m→σ[hb]?=some (.cells (boRow bs) ty_bool true)→IntsAt lo σ s (addrs L)→bs.length=8→x+n=L.length→n<f →
    ∃ σ' bs',d_heap_Heap_Lines_l0 (k+3) f (hptr i) hb 8 s.1 s.2.1 s.2.2 (L.length:Int) (x:Int) σ=some (.exit 0,[],σ')∧HeapAt σ' i m∧σ'[hb]?=some (.cells (boRow bs') ty_bool true)∧bs'.length=8∧(∀ t,bs'.getD t false=true↔bs.getD t false=true ∨ ∃ j ∈ L.drop x,lineIn m j t)∧σ.length≤σ'.length ∧ ∀ q,q<σ.length→q≠hb→σ'[q]?=σ[q]?
  | 0,x,0,σ,bs,h,hc,hs,hl,hx,hf=>by omega
  | 0,x,f+1,σ,bs,h,hc,hs,hl,hx,hf=>by
    rw[d_heap_Heap_Lines_l0_eq,b_heap_Heap_Lines_l0]
    have q:decide ((x:Int)<(L.length:Int))=false:=decide_eq_false (by omega)
    refine ⟨σ,bs,by simp only[q,cond_false],h,hc,hl,fun t=>?_,Nat.le_refl _,fun _ _ _=>rfl⟩
    rw[List.drop_eq_nil_of_le (by omega)]
    simp
  | n+1,x,0,σ,bs,h,hc,hs,hl,hx,hf=>by omega
  | n+1,x,f+1,σ,bs,h,hc,hs,hl,hx,hf=>by
    have hxl:x<L.length:=by omega
    obtain ⟨j1,j2,j3⟩:=hL _ (List.getElem_mem hxl)
    have hj:=j1.1
    have ht:=h.nt
    obtain ⟨z1,z2⟩:=in_used hI hI2 hst j1 j2 j3
    have hz:=hI.size j1
    have al:(addrs L).length=L.length:=by simp[addrs]
    obtain ⟨τ,e⟩:=size_to k h hj
    obtain ⟨jx,hjx⟩:∃ jx,L[x]=jx:=⟨_,rfl⟩
    rw[hjx] at j1 j2 j3 hj z1 z2 hz e
    have hc1:(σ++τ)[hb]?=some (.cells (boRow bs) ty_bool true):=by rw[List.getElem?_append_left (getElem?_lt hc)]; exact hc
    obtain ⟨bs1,e1,l1,g1⟩:=Lines_l1_to (k+3) hb (2*jx % 64+sz m jx-1) ((2*jx % 64+sz m jx-1)/8) (by omega) rfl ((2*jx % 64+sz m jx-1)/8+1-2*jx % 64/8) (2*jx % 64/8) (k+3) (σ++τ) bs hc1 hl (by omega) (by omega)
    obtain ⟨σ1,hσ1⟩:∃ σ1,(σ++τ).set hb (.cells (boRow bs1) ty_bool true)=σ1:=⟨_,rfl⟩
    rw[hσ1] at e1
    have hlt:=getElem?_lt hc1
    have len1:σ1.length=σ.length+τ.length:=by rw[← hσ1]; simp
    have same1:∀ q,q<σ.length→q≠hb→σ1[q]?=σ[q]?:=fun q hq hne=>by
      rw[← hσ1,List.getElem?_set_ne (Ne.symm hne),List.getElem?_append_left hq]
    have h1:HeapAt σ1 i m:=h.like fun q hq=>same1 q (h.lt q hq) (fun e=>hnb (e ▸ hq))
    have c1:σ1[hb]?=some (.cells (boRow bs1) ty_bool true):=by rw[← hσ1]; exact List.getElem?_set_self hlt
    have s1:IntsAt lo σ1 s (addrs L):=by
      rcases hs with hs | ⟨q,a1,rfl,a3,a4⟩
      · exact .inl hs
      · exact .inr ⟨q,a1,rfl,a3,by rw[same1 q (getElem?_lt a4) (hsb _ rfl)]; exact a4⟩
    obtain ⟨σ2,bs2,e2,h2,c2,l2,g2,len2,same2⟩:=Lines_l0_to k hk hI hI2 hbl hst hb hnb L hL hLl lo s hsb n (x+1) f σ1 bs1 h1 c1 s1 l1 (by omega) (by omega)
    refine ⟨σ2,bs2, ?_,h2,c2,l2,fun t=>?_,by omega,fun q hq hne=>(same2 q (by omega) hne).trans (same1 q hq hne)⟩
    · have hs':=hs
      rcases hs with ⟨he,_⟩ | ⟨q,hb1,rfl,hb2,hb3⟩
      · rw[he] at al; simp at al; omega
      rw[d_heap_Heap_Lines_l0_eq,b_heap_Heap_Lines_l0]
      have q0:decide ((x:Int)<(L.length:Int))=true:=decide_eq_true (by omega)
      have w1:w64 ((x:Int)+1)=((x+1:Nat):Int):=w64_in (by unfold inI; omega)
      have ldx:ldI .i64 σ q x=some ((2*jx:Nat):Int):=by
        rw[hs'.ld (by omega),addrs_getD L hxl,hjx]
      have m1:(((2*jx:Nat):Int)).tmod 64=((2*jx % 64:Nat):Int):=rfl
      have m2:w64 ((((2*jx % 64:Nat):Int)).tdiv 8)=((2*jx % 64/8:Nat):Int):=by rw[show ((((2*jx % 64:Nat):Int)).tdiv 8)=((2*jx % 64/8:Nat):Int) from rfl]; exact w64_in (by unfold inI; omega)
      have m3:w64 (((2*jx % 64:Nat):Int)+(sz m jx:Int))=((2*jx % 64+sz m jx:Nat):Int):=by rw[w64_in (by unfold inI; omega)]; omega
      have m4:w64 (((2*jx % 64+sz m jx:Nat):Int)-1)=((2*jx % 64+sz m jx-1:Nat):Int):=by rw[w64_in (by unfold inI; omega)]; omega
      simp only[q0,cond_true]
      rw[if_pos (by omega)]
      simp only[Option.bind_some,Nat.zero_add,Int.toNat_natCast,Nat.mul_one,ldx,show ((64:Int)=0)=False from by decide,show ((8:Int)=0)=False from by decide,if_false,e,toI_int,m1,m2,m3,m4,e1,if_true,w1]
      exact e2
    · rw[g2 t,List.drop_eq_getElem_cons hxl,hjx]
      have:=g1 t
      constructor
      · rintro (a | ⟨j,a1,a2⟩)
        · rw[this,Bool.or_eq_true,decide_eq_true_eq] at a
          rcases a with a | a
          · exact .inl a
          · exact .inr ⟨jx,List.mem_cons_self,a⟩
        · exact .inr ⟨j,List.mem_cons_of_mem _ a1,a2⟩
      · rintro (a | ⟨j,a1,a2⟩)
        · left; rw[this,a]; rfl
        · rcases List.mem_cons.1 a1 with rfl | a1
          · left; rw[this,Bool.or_eq_true,decide_eq_true_eq]; exact .inr a2
          · exact .inr ⟨j,a1,a2⟩
theorem IntsAt.ge {lo:Nat} {s:SlV} {l:List Int} (h:IntsAt lo σ s l):∀ a,s.1=some a→lo≤a.block∧a.block<σ.length:=by
  rcases h with ⟨_,rfl⟩ | ⟨b,h1,rfl,_,h2⟩
  · intro a e; cases e
  · intro a e; cases e; exact ⟨h1,getElem?_lt h2⟩
theorem Lines_no (k:Nat) (h:HeapAt σ i m) {b:Nat} (hb:b<m.bls.length) (hn:¬ (1≤b∧(m.bls.getD b (0,0)).1=1)):d_heap_Heap_Lines (k+4) (hptr i) (b:Int) σ=some (.slice none 0 0,σ):=by
  rw[d_heap_Heap_Lines_eq,b_heap_Heap_Lines]
  simp only[used_to _ h hb,Option.bind_some,toB_bool,decide_eq_false hn,Bool.not_false,cond_true]
theorem Lines_to (k:Nat) (hk:5000≤k) (h:HeapAt σ i m) (hI:Inv m) (hI2:Inv2 m) {b:Nat} (hb:b<m.bls.length) (h1:1≤b) (hst:(m.bls.getD b (0,0)).1=1):
    ∃ τ bs,d_heap_Heap_Lines (k+7) (hptr i) (b:Int) σ=some (.slice (some ⟨σ.length,0,none⟩) 8 8,σ++τ)∧(σ++τ)[σ.length]?=some (.cells (boRow bs) ty_bool true)∧bs.length=8∧(∀ t,bs.getD t false=true ↔ ∃ j ∈ starts m (32*b) 32,lineIn m j t):=by
  have hu:d_heap_Heap_used (k+6) (hptr i) (b:Int) σ=_:=used_to (k+3) h hb
  obtain ⟨σ1,hσ1⟩:∃ σ1,σ++[AObj.cells (boRow (List.replicate 8 false)) ty_bool true]=σ1:=⟨_,rfl⟩
  have h1':HeapAt σ1 i m:=hσ1 ▸ h.app _
  have c1:σ1[σ.length]?=some (.cells (boRow (List.replicate 8 false)) ty_bool true):=by rw[← hσ1]; simp
  obtain ⟨τ2,s,e2,i2⟩:=Objects_to k hk h1' hb
  have hL:∀ j ∈ starts m (32*b) 32,Start m j∧32*b≤j∧j<32*b+32:=by
    intro j hj
    obtain ⟨a,b',c⟩:=mem_starts.1 hj
    exact ⟨⟨by omega,c⟩,a,b'⟩
  have hnb:σ.length ∉ i.l:=fun hm=>Nat.lt_irrefl _ (h.lt _ hm)
  have hlen1:σ1.length=σ.length+1:=by rw[← hσ1]; simp
  obtain ⟨σ3,bs,e3,h3,c3,l3,g3,len3,same3⟩:=Lines_l0_to (k+3) (by omega) hI hI2 hb hst σ.length hnb _ hL (starts_len m _ _) σ1.length s (fun a ha=>by have:=(i2.ge a ha).1; omega) (starts m (32*b) 32).length 0 (k+6) (σ1++τ2) (List.replicate 8 false) (h1'.app τ2)
    (by rw[List.getElem?_append_left (getElem?_lt c1)]; exact c1) i2 rfl (by omega) (by have:=starts_len m (32*b) 32; omega)
  have hl2:σ.length≤σ3.length:=by simp at len3; omega
  have eσ:σ3=σ++σ3.drop σ.length:=by
    apply List.ext_getElem?
    intro q
    by_cases hq:q<σ.length
    · rw[List.getElem?_append_left hq,same3 q (by simp; omega) (by omega),List.getElem?_append_left (by omega),← hσ1,List.getElem?_append_left hq]
    · rw[List.getElem?_append_right (by omega),List.getElem?_drop]
      rw[show σ.length+(q-σ.length)=q from by omega]
  refine ⟨σ3.drop σ.length,bs, ?_,by rw[← eσ]; exact c3,l3,fun t=>?_⟩
  · rw[d_heap_Heap_Lines_eq,b_heap_Heap_Lines]
    have hl:=i2.len
    rw[show (addrs (starts m (32*b) 32)).length=(starts m (32*b) 32).length from by simp[addrs]] at hl
    simp only[hu,Option.bind_some,toB_bool,decide_eq_true (And.intro h1 hst),Bool.not_true,cond_false]
    have q8:(0≤(8:Int)∧(8:Int)≤(8:Int)∧(8:Int)*((1:Nat):Int)≤2 ^ 40∧(8:Int)≤2 ^ 40)=True:=eq_true (⟨by omega,by omega,by omega,by omega⟩)
    simp only[q8,if_true,allocK,show (8:Int).toNat=8 from rfl,rep_bool,hσ1,e2,Option.bind_some,toS,hl]
    rw[show ((0:Nat):Int)=0 from rfl,hl] at e3
    simp only[e3,Option.bind_some,if_true]
    rw[← eσ]
  · rw[g3 t,List.drop_zero]
    constructor
    · rintro (a | a)
      · rw[List.getD_eq_getElem?_getD,List.getElem?_replicate] at a
        split at a <;> cases a
      · exact a
    · exact .inr
end Go.Proofs.YtlaplcglpnlieaaGreat
