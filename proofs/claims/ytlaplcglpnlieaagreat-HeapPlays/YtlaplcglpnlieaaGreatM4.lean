/-
  SD SE SG.
-/
import Derived.Test.YtlaplcglpnlieaaGreatM3
set_option linter.unusedVariables false
set_option linter.unusedSimpArgs false
namespace Go.Proofs.YtlaplcglpnlieaaGreat
open Go Go.AX
section
open Go Go.AX
noncomputable local instance qSD:Quiet:=fullQuiet
local instance nSD:Kn:=⟨true⟩
variable {σ:AMem} {m:HM} {i:HIds}
theorem used_out (k:Nat) (h:HeapAt σ i m) {b:Int} (hb:¬ (0≤b∧b<(m.bls.length:Int))):d_heap_Heap_used (k+3) (hptr i) b σ=some (.bool false,σ):=by
  rw[d_heap_Heap_used_eq,b_heap_Heap_used]
  simp only[there_h _ h,Option.bind_some,toB_bool,decide_eq_false (show ¬ (1≤b∧b<(m.bls.length:Int)) by omega),cond_false]
theorem State_g (k:Nat) (h:HeapAt σ i m) (b:Int):d_heap_Heap_State (k+3) (hptr i) b σ=some (.int .i64 (stateI m b),σ):=by
  unfold stateI
  by_cases hb:0≤b∧b<(m.bls.length:Int)
  · rw[if_pos hb]
    obtain ⟨n,rfl⟩:∃ n:Nat,b=(n:Int):=⟨b.toNat,by omega⟩
    rw[Int.toNat_natCast]
    exact State_to k h (by omega)
  · rw[if_neg hb,d_heap_Heap_State_eq,b_heap_Heap_State]
    by_cases h0:b<0
    · simp only[decide_eq_true h0,cond_true,Option.bind_some]
    · simp only[decide_eq_false h0,cond_false,Blocks_to k h,Option.bind_some,toI_int,decide_eq_true (show b≥((m.bls.length:Nat):Int) by omega),cond_true]
theorem Space_g (k:Nat) (h:HeapAt σ i m) (b:Int):d_heap_Heap_Space (k+3) (hptr i) b σ=some (.int .i64 (spaceI m b),σ):=by
  unfold spaceI
  by_cases hb:0≤b∧b<(m.bls.length:Int)
  · rw[if_pos hb]
    obtain ⟨n,rfl⟩:∃ n:Nat,b=(n:Int):=⟨b.toNat,by omega⟩
    rw[Int.toNat_natCast]
    exact Space_to k h (by omega)
  · rw[if_neg hb,d_heap_Heap_Space_eq,b_heap_Heap_Space]
    by_cases h0:b<0
    · simp only[decide_eq_true h0,cond_true,Option.bind_some]
    · simp only[decide_eq_false h0,cond_false,Blocks_to k h,Option.bind_some,toI_int,decide_eq_true (show b≥((m.bls.length:Nat):Int) by omega),cond_true]
theorem Objects_g (k:Nat) (hk:5000≤k) (h:HeapAt σ i m) (b:Int):∃ τ s,d_heap_Heap_Objects (k+6) (hptr i) b σ=some (.slice s.1 s.2.1 s.2.2,σ++τ)∧IntsAt σ.length (σ++τ) s (addrs (objsI m b)):=by
  unfold objsI
  by_cases hb:0≤b∧b<(m.bls.length:Int)
  · rw[if_pos hb]
    obtain ⟨n,rfl⟩:∃ n:Nat,b=(n:Int):=⟨b.toNat,by omega⟩
    rw[Int.toNat_natCast]
    exact Objects_to k hk h (by omega)
  · rw[if_neg hb,d_heap_Heap_Objects_eq,b_heap_Heap_Objects]
    refine ⟨[],(none,0,0), ?_,.inl ⟨rfl,rfl⟩⟩
    simp only[hmade_to _ h,Option.bind_some,toB_bool,Bool.not_true,cond_false,List.append_nil]
    by_cases h0:b<0
    · simp only[decide_eq_true h0,cond_true,Option.bind_some]
    · simp only[decide_eq_false h0,cond_false,Option.bind_some,Nat.zero_add,h.ld0,decide_eq_true (show b≥((m.bls.length:Nat):Int) by omega),cond_true]
theorem Gaps_g (k:Nat) (hk:5000≤k) (h:HeapAt σ i m) (hI:Inv m) (h0:B0 m) (b:Int):
    ∃ τ s,d_heap_Heap_Gaps (k+7) (hptr i) b σ=some (.slice s.1 s.2.1 s.2.2,σ++τ)∧SlAt ty_api_Run 2 (σ++τ) s (gapsI m b).length (runRow (gapsI m b)) ∧ ∀ a,s.1=some a→σ.length≤a.block:=by
  by_cases hb:0≤b∧b<(m.bls.length:Int)
  · obtain ⟨n,rfl⟩:∃ n:Nat,b=(n:Int):=⟨b.toNat,by omega⟩
    have e:gapsI m (n:Int)=gapsM m n:=by
      unfold gapsI gapsM stateI
      rw[if_pos hb,Int.toNat_natCast]
      by_cases hs:(m.bls.getD n (0,0)).1=1
      · have:1≤n:=by
          rcases Nat.eq_zero_or_pos n with rfl | h1
          · have:=h0; unfold B0 at this; omega
          · exact h1
        rw[if_pos hs,if_pos ⟨this,hs⟩]
      · rw[if_neg hs,if_neg (fun hh=>hs hh.2)]
    rw[e]
    obtain ⟨τ,s,e1,e2,_,e4⟩:=Gaps_to k hk h hI (b:=n) (by omega)
    exact ⟨τ,s,e1,e2,e4⟩
  · have e:gapsI m b=[]:=by
      unfold gapsI stateI
      rw[if_neg hb,if_neg (by decide)]
    rw[e]
    refine ⟨[],(none,0,0), ?_,SlAt.nil _ _ _,by intro a ha; cases ha⟩
    rw[d_heap_Heap_Gaps_eq,b_heap_Heap_Gaps]
    have hu:d_heap_Heap_used (k+6) (hptr i) b σ=_:=used_out (k+3) h hb
    simp only[hu,Option.bind_some,toB_bool,Bool.not_false,cond_true,List.append_nil]
theorem getD_ext_bool {l l':List Bool} (hl:l.length=l'.length) (h:∀ t,t<l.length→(l.getD t false=true↔l'.getD t false=true)):l=l':=by
  apply List.ext_getElem hl
  intro n h1 h2
  have:=h n h1
  rw[List.getD_eq_getElem?_getD,List.getD_eq_getElem?_getD,List.getElem?_eq_getElem h1,List.getElem?_eq_getElem h2,Option.getD_some,Option.getD_some] at this
  cases hx:l[n] <;> cases hy:l'[n] <;> rw[hx,hy] at this <;> simp at this <;> rfl
theorem Lines_g (k:Nat) (hk:5000≤k) (h:HeapAt σ i m) (hI:Inv m) (hI2:Inv2 m) (h0:B0 m) (b:Int):
    ∃ τ s,d_heap_Heap_Lines (k+7) (hptr i) b σ=some (.slice s.1 s.2.1 s.2.2,σ++τ)∧SlAt ty_bool 1 (σ++τ) s (linesI m b).length (boRow (linesI m b)) ∧ ∀ a,s.1=some a→σ.length≤a.block:=by
  have hwl:=h.wl
  by_cases hb:0≤b∧b<(m.bls.length:Int)
  · obtain ⟨n,rfl⟩:∃ n:Nat,b=(n:Int):=⟨b.toNat,by omega⟩
    have hn:n<m.bls.length:=by omega
    unfold linesI stateI
    rw[if_pos hb,Int.toNat_natCast]
    by_cases hs:(m.bls.getD n (0,0)).1=1
    · have h1:1≤n:=by
        rcases Nat.eq_zero_or_pos n with rfl | h1
        · have:=h0; unfold B0 at this; omega
        · exact h1
      rw[if_pos hs]
      obtain ⟨τ,bs,e1,e2,e3,e4⟩:=Lines_to k hk h hI hI2 hn h1 hs
      have eb:bs=linesN m n 8:=by
        refine getD_ext_bool (by rw[e3,linesN_len]) fun t ht=>?_
        rw[e4 t,line_any hI hI2 hwl hn hs (by omega)]
        have:(linesN m n 8).getD t false=anyF m (64*n+8*t) 8:=by
          unfold linesN
          rw[List.getD_eq_getElem?_getD,List.getElem?_map,List.getElem?_range (by omega)]
          rfl
        rw[this]
      rw[eb] at e2
      exact ⟨τ,(some ⟨σ.length,0,none⟩,8,8),e1,.inr ⟨σ.length,by rw[linesN_len],Nat.zero_le _,by rw[linesN_len]; unfold boRow; rw[List.length_map,linesN_len],e2⟩,fun a ha=>by cases ha; exact Nat.le_refl _⟩
    · rw[if_neg hs]
      refine ⟨[],(none,0,0), ?_,SlAt.nil _ _ _,by intro a ha; cases ha⟩
      rw[List.append_nil]
      exact Lines_no (k+3) h hn (fun hh=>hs hh.2)
  · have e:linesI m b=[]:=by
      unfold linesI stateI
      rw[if_neg hb,if_neg (by decide)]
    rw[e]
    refine ⟨[],(none,0,0), ?_,SlAt.nil _ _ _,by intro a ha; cases ha⟩
    rw[d_heap_Heap_Lines_eq,b_heap_Heap_Lines]
    have hu:d_heap_Heap_used (k+6) (hptr i) b σ=_:=used_out (k+3) h hb
    simp only[hu,Option.bind_some,toB_bool,Bool.not_false,cond_true,List.append_nil]
theorem Shape_g (k:Nat) (h:HeapAt σ i m) (a:Int) (ha:inI a):∃ τ,d_heap_Heap_Shape (k+6) (hptr i) a σ=some (.tuple #[if hasM m a then shapeV m (a.toNat/2) else shape0,.int .i64 (if hasM m a then 0 else 4)],σ++τ):=by
  cases hh:hasM m a with
  | true=>
    obtain ⟨j,rfl,hs⟩:=hasM_spec hh
    obtain ⟨τ,e⟩:=Shape_to k h hs
    refine ⟨τ, ?_⟩
    rw[e,show ((2*j:Nat):Int).toNat/2=j from by omega]
    rfl
  | false=>
    rw[d_heap_Heap_Shape_eq,b_heap_Heap_Shape]
    simp only[allocK]
    have h1:=h.app [AObj.cells [Value.int .i64 0,.int .i64 0,.int .i64 0] ty_api_Shape true]
    have hN:∀ x y z:Value,ldN (σ++[AObj.cells [x,y,z] ty_api_Shape true]) σ.length 0 3=some [x,y,z]:=fun x y z=>by simp[ldN]
    refine ⟨[AObj.cells [.int .i64 0,.int .i64 0,.int .i64 0] ty_api_Shape true], ?_⟩
    simp only[object_to k h1 a ha,hh,Bool.false_eq_true,if_false,Option.bind_some,toI_int,ne4,cond_true,stN_box3,hN,resOf]
    rfl
theorem Ref_g (k:Nat) (h:HeapAt σ i m) (hI:Inv m) (a x:Int) (ha:inI a):∃ τ,d_heap_Heap_Ref (k+7) (hptr i) a x σ=some (.tuple #[.int .i64 (refR m a x false).1,.int .i64 (refR m a x false).2],σ++τ):=by
  obtain ⟨τ,e⟩:=field_to k h hI a x ha false
  refine ⟨τ, ?_⟩
  rw[d_heap_Heap_Ref_eq,b_heap_Heap_Ref]
  simp only[e,Option.bind_some,r_ii_eq]
  unfold refR
  by_cases h0:(fieldM m a x false).2=0
  · rw[if_pos h0]
    have hf:0≤(fieldM m a x false).1∧(fieldM m a x false).1<(m.wds.length:Int):=by
      unfold fieldM at h0 ⊢
      split at h0
      · rename_i hh
        obtain ⟨j,rfl,hs⟩:=hasM_spec hh
        have hfit:=hI.fit j hs
        have hz:=hI.size hs
        simp only[show ((2*j:Nat):Int).toNat/2=j from by omega,Bool.false_eq_true,if_false] at h0 ⊢
        split at h0
        · rename_i hx
          rw[if_pos (hasM_of hs),if_pos hx]
          dsimp only
          omega
        · cases h0
      · cases h0
    obtain ⟨n,hn⟩:∃ n:Nat,(fieldM m a x false).1=(n:Int):=⟨(fieldM m a x false).1.toNat,by omega⟩
    have qx:(0≤(n:Int)∧(n:Int)<((m.wds.length:Nat):Int))=True:=eq_true (by omega)
    simp only[h0,hn,bne_self_eq_false,cond_false,Nat.zero_add,(h.app τ).ld1',Option.bind_some,qx,if_true,Int.toNat_natCast,Nat.mul_one,(h.app τ).ldW (show n<m.wds.length by omega)]
  · rw[if_neg h0]
    simp only[bne_iff_ne.2 h0,cond_true]
theorem Data_g (k:Nat) (h:HeapAt σ i m) (hI:Inv m) (a x:Int) (ha:inI a):∃ τ,d_heap_Heap_Data (k+7) (hptr i) a x σ=some (.tuple #[.int .i64 (refR m a x true).1,.int .i64 (refR m a x true).2],σ++τ):=by
  obtain ⟨τ,e⟩:=field_to k h hI a x ha true
  refine ⟨τ, ?_⟩
  rw[d_heap_Heap_Data_eq,b_heap_Heap_Data]
  simp only[e,Option.bind_some,r_ii_eq]
  unfold refR
  by_cases h0:(fieldM m a x true).2=0
  · rw[if_pos h0]
    have hf:0≤(fieldM m a x true).1∧(fieldM m a x true).1<(m.wds.length:Int):=by
      unfold fieldM at h0 ⊢
      split at h0
      · rename_i hh
        obtain ⟨j,rfl,hs⟩:=hasM_spec hh
        have hfit:=hI.fit j hs
        have hz:=hI.size hs
        simp only[show ((2*j:Nat):Int).toNat/2=j from by omega,if_true] at h0 ⊢
        split at h0
        · rename_i hx
          rw[if_pos (hasM_of hs),if_pos hx]
          dsimp only
          omega
        · cases h0
      · cases h0
    obtain ⟨n,hn⟩:∃ n:Nat,(fieldM m a x true).1=(n:Int):=⟨(fieldM m a x true).1.toNat,by omega⟩
    have qx:(0≤(n:Int)∧(n:Int)<((m.wds.length:Nat):Int))=True:=eq_true (by omega)
    simp only[h0,hn,bne_self_eq_false,cond_false,Nat.zero_add,(h.app τ).ld1',Option.bind_some,qx,if_true,Int.toNat_natCast,Nat.mul_one,(h.app τ).ldW (show n<m.wds.length by omega)]
  · rw[if_neg h0]
    simp only[bne_iff_ne.2 h0,cond_true]
theorem fz_if {c:Prop} [Decidable c] {r r':Int × HM} (h:c→FZ r.2) (h':¬ c→FZ r'.2):FZ (if c then r else r').2:=by
  split
  · exact h ‹_›
  · exact h' ‹_›
theorem fz_bls {m':HM} (h:FZ m) (hb:m'.bls=m.bls):FZ m':=by unfold FZ; rw[hb]; exact h
theorem claimR_fz (h:FZ m) (b c x y x' y':Int) (hx:x≠0) (hx':x'≠0∨c=1):FZ (claimR m b c x y x' y').2:=by
  unfold claimR
  refine fz_if (fun hc=>fz_if (fun hu=>?_) fun _=>h) fun _=>h
  intro d hd
  have hd:(((clM m.bls b.toNat (x',y') c.toNat 0).set b.toNat (x,y)).getD d (0,0)).1=0:=hd
  show (((clM m.bls b.toNat (x',y') c.toNat 0).set b.toNat (x,y)).getD d (0,0)).2=0
  rw[getD_set_bl,clM_length] at hd ⊢
  by_cases h1:d=b.toNat∧b.toNat<m.bls.length
  · rw[if_pos h1] at hd; exact absurd hd hx
  · rw[if_neg h1] at hd ⊢
    rw[clM_get _ _ _ _ _ _ (by omega)] at hd ⊢
    split at hd
    · rename_i hr
      rcases hx' with hx' | rfl
      · exact absurd hd hx'
      · rw[show (1:Int).toNat=1 from rfl] at hr
        exact absurd ⟨by omega,by omega⟩ h1
    · rename_i hr
      rw[if_neg hr]; exact h d hd
theorem releaseR_fz (h:FZ m) (b:Int):FZ (releaseR m b).2:=by
  unfold releaseR
  refine fz_if (fun hc=>fz_if (fun hu=>?_) fun _=>h) fun _=>h
  intro d hd
  have hd:((relM m.bls b.toNat (spanF m b.toNat)).getD d (0,0)).1=0:=hd
  show ((relM m.bls b.toNat (spanF m b.toNat)).getD d (0,0)).2=0
  rw[relM_getD] at hd ⊢
  split
  · rfl
  · rename_i hr
    rw[if_neg hr] at hd; exact h d hd
theorem retagR_fz (h:FZ m) (b y:Int):FZ (retagR m b y).2:=by
  unfold retagR
  refine fz_if (fun hc=>?_) fun _=>h
  obtain ⟨n,rfl,h1,h2,_⟩:=heldM_zero hc
  rw[Int.toNat_natCast]
  have hst:(m.bls.getD n (0,0)).1=1∨(m.bls.getD n (0,0)).1=2:=by
    unfold heldM at hc
    split at hc
    · cases hc
    · split at hc
      · cases hc
      · rename_i g
        rw[Int.toNat_natCast] at g
        omega
  intro d hd
  have hd:((tagM m.bls n y (spanF m n)).getD d (0,0)).1=0:=hd
  show ((tagM m.bls n y (spanF m n)).getD d (0,0)).2=0
  rw[tagM_get _ _ _ _ _ (spanF_le h2)] at hd ⊢
  split
  · rename_i hr
    rw[if_pos hr] at hd
    have:=spanM_states (m:=m) m.bls.length 1 hst (Nat.le_refl _) (fun c _ _=>by omega) (d-n) (by show d-n<spanF m n; omega)
    rw[show n+(d-n)=d from by omega] at this
    exact absurd hd this
  · rename_i hr
    rw[if_neg hr] at hd; exact h d hd
theorem doR_fz (h:FZ m) (x:ActV):FZ (doR m x).2:=by
  unfold doR
  refine fz_if (fun _=>claimR_fz h _ _ _ _ _ _ (by decide) (.inr rfl)) fun _=>?_
  refine fz_if (fun _=>claimR_fz h _ _ _ _ _ _ (by decide) (.inl (by decide))) fun _=>?_
  refine fz_if (fun _=>releaseR_fz h _) fun _=>?_
  refine fz_if (fun _=>retagR_fz h _ _) fun _=>?_
  refine fz_if (fun _=>?_) fun _=>?_
  · unfold placeR
    split
    · split
      · exact fz_bls h rfl
      · exact h
    · exact h
  refine fz_if (fun _=>?_) fun _=>?_
  · unfold killR; exact fz_if (fun _=>fz_bls h rfl) fun _=>h
  refine fz_if (fun _=>?_) fun _=>?_
  · unfold moveR; exact fz_if (fun _=>fz_if (fun _=>fz_bls h rfl) fun _=>h) fun _=>h
  refine fz_if (fun _=>?_) fun _=>?_
  · unfold setRefR; exact fz_if (fun _=>fz_if (fun _=>h) fun _=>fz_bls h rfl) fun _=>h
  refine fz_if (fun _=>?_) fun _=>?_
  · unfold setDataR; exact fz_if (fun _=>fz_bls h rfl) fun _=>h
  refine fz_if (fun _=>?_) fun _=>?_
  · unfold pokeR
    refine fz_if (fun _=>?_) fun _=>h
    split
    · exact h
    · exact fz_if (fun _=>fz_bls h rfl) fun _=>h
  refine fz_if (fun _=>?_) fun _=>?_
  · unfold pinR; exact fz_if (fun _=>fz_bls h rfl) fun _=>h
  refine fz_if (fun _=>?_) fun _=>?_
  · unfold pinR; exact fz_if (fun _=>fz_bls h rfl) fun _=>h
  exact fz_if (fun _=>fz_bls h rfl) fun _=>h
end
section
open Go Go.AX
noncomputable local instance qSE:Quiet:=fullQuiet
local instance nSE:Kn:=⟨true⟩
variable {σ:AMem} {m:HM} {t:RM} {i:HIds} {j:RI}
structure Two (σ:AMem) (i:HIds) (j:RI) (m:HM) (t:RM):Prop where
  h:HeapAt σ i m
  g:RG σ j m t
  P:PinZ m
  z:FZ m
  b0:B0 m
  off:∀ q ∈ i.l,q ∉ j.l
  br:m.births≤1000
  fl:m.fw.length≤1000
theorem Two.app (T:Two σ i j m t) (τ:AMem):Two (σ++τ) i j m t:=⟨T.h.app τ,T.g.app τ,T.P,T.z,T.b0,T.off,T.br,T.fl⟩
def wordV (m:HM) (a:Int):Int × Int:=if 0≤a∧a<(m.wds.length:Int) then (m.wds.getD a.toNat 0,0) else (0,1)
def findV (m:HM) (a:Int):Int × Int:=match findI m a with | some j=>(((2*j:Nat):Int),0) | none=>(0,4)
def identV (m:HM) (a:Int):Int × Int:=if hasM m a then (m.wds.getD a.toNat 0,0) else (0,4)
def atV (m:HM) (n:Int):Int × Int:=match getM m.pl n with | some a=>(a,0) | none=>(0,4)
theorem word_h (k:Nat) (h:HeapAt σ i m) (a:Int):d_heap_Heap_Word (k+2) (hptr i) a σ=some (.tuple #[.int .i64 (wordV m a).1,.int .i64 (wordV m a).2],σ):=by
  rw[Word_to k h a]; unfold wordV; split <;> rfl
theorem word_r (k:Nat) (hk:5000≤k) (g:RG σ j m t) (a:Int):∃ τ,d_ref02_Heap_Word (k+4) (rptr j) a σ=some (.tuple #[.int .i64 (wordV m a).1,.int .i64 (wordV m a).2],σ++τ):=by
  obtain ⟨τ,e⟩:=rWord_to k hk g a
  refine ⟨τ, ?_⟩
  rw[e]; unfold wordV; split <;> rfl
theorem find_h (k:Nat) (hk:5000≤k) (h:HeapAt σ i m) (a:Int):∃ τ,d_heap_Heap_Find (k+10) (hptr i) a σ=some (.tuple #[.int .i64 (findV m a).1,.int .i64 (findV m a).2],σ++τ):=by
  obtain ⟨τ,e⟩:=Find_to k hk h a
  refine ⟨τ, ?_⟩
  rw[e]; unfold findV; cases findI m a <;> rfl
theorem find_r (k:Nat) (hk:5000≤k) (g:RG σ j m t) (a:Int):∃ τ,d_ref02_Heap_Find (k+3) (rptr j) a σ=some (.tuple #[.int .i64 (findV m a).1,.int .i64 (findV m a).2],σ++τ):=by
  obtain ⟨τ,e⟩:=rFind_to k hk g a
  refine ⟨τ, ?_⟩
  rw[e]; unfold findV; cases findI m a <;> rfl
theorem ident_h (k:Nat) (h:HeapAt σ i m) (a:Int) (ha:inI a):d_heap_Heap_Ident (k+6) (hptr i) a σ=some (.tuple #[.int .i64 (identV m a).1,.int .i64 (identV m a).2],σ):=by
  rw[Ident_to k h a ha]; unfold identV; split <;> rfl
theorem ident_r (k:Nat) (hk:5000≤k) (g:RG σ j m t) (a:Int):d_ref02_Heap_Ident (k+4) (rptr j) a σ=some (.tuple #[.int .i64 (identV m a).1,.int .i64 (identV m a).2],σ):=by
  rw[rIdent_to k hk g a]; unfold identV; split <;> rfl
theorem at_h (k:Nat) (h:HeapAt σ i m) (n:Int):d_heap_Heap_At (k+2) (hptr i) n σ=some (.tuple #[.int .i64 (atV m n).1,.int .i64 (atV m n).2],σ):=by
  rw[At_to k h n]; unfold atV; cases getM m.pl n <;> rfl
theorem at_r (k:Nat) (hk:5000≤k) (g:RG σ j m t) (n:Int):d_ref02_Heap_At (k+2) (rptr j) n σ=some (.tuple #[.int .i64 (atV m n).1,.int .i64 (atV m n).2],σ):=by
  rw[rAt_to k hk g n]; unfold atV; cases getM m.pl n <;> rfl
def shapeT (m:HM) (a:Int):Int × Int × Int:=if hasM m a then (refsAt m (a.toNat/2),dataAt m (a.toNat/2),kindAt m (a.toNat/2)) else (0,0,0)
theorem shapeT_v (m:HM) (a:Int):(if hasM m a then shapeV m (a.toNat/2) else shape0) = .agg #[.int .i64 (shapeT m a).1,.int .i64 (shapeT m a).2.1,.int .i64 (shapeT m a).2.2]:=by
  unfold shapeT; split <;> rfl
theorem shapeT_le (hI:Inv m) (a:Int):0≤(shapeT m a).1∧(shapeT m a).1≤200∧0≤(shapeT m a).2.1∧(shapeT m a).2.1≤200:=by
  unfold shapeT
  split
  · rename_i hh
    obtain ⟨j,rfl,hs⟩:=hasM_spec hh
    obtain ⟨_,r1,r2,r3,r4,_⟩:=word1 hI hs
    rw[show ((2*j:Nat):Int).toNat/2=j from by omega]
    dsimp only
    omega
  · dsimp only; omega
theorem eqShape (a b c a' b' c':Int):eqA P ty_api_Shape (.agg #[.int .i64 a,.int .i64 b,.int .i64 c]) (.agg #[.int .i64 a',.int .i64 b',.int .i64 c'])=(bif a == a' then (bif b == b' then some (c == c') else some false) else some false):=by kernel_rfl
theorem Looks_l0_to (k:Nat) (hk:5000≤k) (a:Int) (ha:inI a) {q:Nat} {r d c:Int} {T:TypeId} (hr:r≤1000):∀ (n f:Nat) (x:Int) (σ:AMem),Two σ i j m t→σ[q]?=some (.cells [.int .i64 r,.int .i64 d,.int .i64 c] T true)→x+n=r+1 → -1≤x→n<f →
    ∃ τ,d_law02_Looks_l0 (k+7) f (hptr i) (rptr j) a q x σ=some (.exit 0,[],σ++τ)
  | n,0,x,σ,W,hq,hx,h1,hf=>by omega
  | 0,f+1,x,σ,W,hq,hx,h1,hf=>by
    have l0:ldI .i64 σ q 0=some r:=by simp[ldI,ld1,hq,toI]
    rw[d_law02_Looks_l0_eq,b_law02_Looks_l0]
    exact ⟨[],by simp only[Nat.zero_add,Nat.add_zero,l0,Option.bind_some,decide_eq_false (show ¬ x≤r by omega),cond_false,List.append_nil]⟩
  | n+1,f+1,x,σ,W,hq,hx,h1,hf=>by
    have l0:ldI .i64 σ q 0=some r:=by simp[ldI,ld1,hq,toI]
    obtain ⟨τ1,e1⟩:=Ref_g k W.h W.g.inv a x ha
    have W1:=W.app τ1
    obtain ⟨τ2,e2⟩:=rRef_to (k+3) (by omega) W1.g a x
    have W2:=W1.app τ2
    obtain ⟨τ3,e3⟩:=Looks_l0_to k hk a ha hr n f (x+1) (σ++τ1++τ2) W2 (by rw[List.append_assoc,List.getElem?_append_left (getElem?_lt hq)]; exact hq) (by omega) (by omega) (by omega)
    refine ⟨τ1++τ2++τ3, ?_⟩
    have w1:w64 (x+1)=x+1:=w64_in (by unfold inI; omega)
    rw[d_law02_Looks_l0_eq,b_law02_Looks_l0]
    simp only[Nat.zero_add,Nat.add_zero,l0,Option.bind_some,decide_eq_true (show x≤r by omega),cond_true,e1,r_ii_eq,e2,bne_self_eq_false,cond_false,w1,e3]
    simp only[List.append_assoc]
theorem Looks_l1_to (k:Nat) (hk:5000≤k) (a:Int) (ha:inI a) {q:Nat} {r d c:Int} {T:TypeId} (hr:d≤1000):∀ (n f:Nat) (x:Int) (σ:AMem),Two σ i j m t→σ[q]?=some (.cells [.int .i64 r,.int .i64 d,.int .i64 c] T true)→x+n=d+1 → -1≤x→n<f →
    ∃ τ,d_law02_Looks_l1 (k+7) f (hptr i) (rptr j) a q x σ=some (.exit 2,[],σ++τ)
  | n,0,x,σ,W,hq,hx,h1,hf=>by omega
  | 0,f+1,x,σ,W,hq,hx,h1,hf=>by
    have l0:ldI .i64 σ q 1=some d:=by simp[ldI,ld1,hq,toI]
    rw[d_law02_Looks_l1_eq,b_law02_Looks_l1]
    exact ⟨[],by simp only[Nat.zero_add,Nat.add_zero,l0,Option.bind_some,decide_eq_false (show ¬ x≤d by omega),cond_false,List.append_nil]⟩
  | n+1,f+1,x,σ,W,hq,hx,h1,hf=>by
    have l0:ldI .i64 σ q 1=some d:=by simp[ldI,ld1,hq,toI]
    obtain ⟨τ1,e1⟩:=Data_g k W.h W.g.inv a x ha
    have W1:=W.app τ1
    obtain ⟨τ2,e2⟩:=rData_to (k+3) (by omega) W1.g a x
    have W2:=W1.app τ2
    obtain ⟨τ3,e3⟩:=Looks_l1_to k hk a ha hr n f (x+1) (σ++τ1++τ2) W2 (by rw[List.append_assoc,List.getElem?_append_left (getElem?_lt hq)]; exact hq) (by omega) (by omega) (by omega)
    refine ⟨τ1++τ2++τ3, ?_⟩
    have w1:w64 (x+1)=x+1:=w64_in (by unfold inI; omega)
    rw[d_law02_Looks_l1_eq,b_law02_Looks_l1]
    simp only[Nat.zero_add,Nat.add_zero,l0,Option.bind_some,decide_eq_true (show x≤d by omega),cond_true,e1,r_ii_eq,e2,bne_self_eq_false,cond_false,w1,e3]
    simp only[List.append_assoc]
theorem Looks_to (k:Nat) (hk:5000≤k) (W:Two σ i j m t) (a:Int) (ha:inI a):∃ τ,d_law02_Looks (k+11) (hptr i) (rptr j) a σ=some (.bool true,σ++τ):=by
  have hfl:t.fw.length≤1000:=by rw[W.g.sim.fl]; exact W.fl
  have e1:d_heap_Heap_Word (k+10) (hptr i) a σ=_:=word_h (k+8) W.h a
  obtain ⟨τ1,e2⟩:=word_r (k+6) (by omega) W.g a
  have W1:=W.app τ1
  have e3:d_heap_Heap_Has (k+10) (hptr i) a (σ++τ1)=_:=Has_to (k+6) W1.h a ha
  have e4:d_ref02_Heap_Has (k+10) (rptr j) a (σ++τ1)=_:=rHas_to (k+7) (by omega) W1.g a
  have e5:d_heap_Heap_Pinned (k+10) (hptr i) a (σ++τ1)=_:=Pinned_to (k+5) W1.h a ha
  have e6:d_ref02_Heap_Pinned (k+10) (rptr j) a (σ++τ1)=_:=rPinned_to (k+7) (by omega) W1.g a
  obtain ⟨τ2,e7⟩:=find_h k hk W1.h a
  have W2:=W1.app τ2
  obtain ⟨τ3,e8⟩:=find_r (k+7) (by omega) W2.g a
  have W3:=W2.app τ3
  have e9:d_heap_Heap_Forward (k+10) (hptr i) a (σ++τ1++τ2++τ3)=_:=Forward_to (k+8) W3.h a
  have e10:d_ref02_Heap_Forward (k+10) (rptr j) a (σ++τ1++τ2++τ3)=_:=rForward_to (k+8) W3.g (by omega) (by omega) a
  have e11:d_heap_Heap_Ident (k+10) (hptr i) a (σ++τ1++τ2++τ3)=_:=ident_h (k+4) W3.h a ha
  have e12:d_ref02_Heap_Ident (k+10) (rptr j) a (σ++τ1++τ2++τ3)=_:=ident_r (k+6) (by omega) W3.g a
  obtain ⟨τ4,e13⟩:=Shape_g (k+4) W3.h a ha
  rw[shapeT_v] at e13
  have W4:=W3.app τ4
  obtain ⟨S,hS⟩:∃ S,AObj.cells [.int .i64 (shapeT m a).1,.int .i64 (shapeT m a).2.1,.int .i64 (shapeT m a).2.2] ty_api_Shape true=S:=⟨_,rfl⟩
  have W5:=W4.app [S]
  obtain ⟨τ5,e14⟩:=rShape_to (k+6) (by omega) W5.g a
  rw[shapeT_v] at e14
  have W6:=W5.app τ5
  have W7:=W6.app [S]
  obtain ⟨s1,s2,s3,s4⟩:=shapeT_le W.g.inv a
  generalize hsg:shapeT m a=s at e13 e14 s1 s2 s3 s4 hS
  obtain ⟨r,d,c⟩:=s
  dsimp only at e13 e14 s1 s2 s3 s4 hS
  generalize hμ4:σ++τ1++τ2++τ3++τ4=μ4 at *
  have st:∀ μ:AMem,stN (μ++[AObj.cells [.int .i64 0,.int .i64 0,.int .i64 0] ty_api_Shape true]) μ.length 0 [.int .i64 r,.int .i64 d,.int .i64 c]=some (μ++[S]):=fun μ=>by rw[stN_box3,hS]
  have q1:(μ4++[S]++τ5++[S])[μ4.length]?=some (.cells [.int .i64 r,.int .i64 d,.int .i64 c] ty_api_Shape true):=by
    rw[List.append_assoc,List.append_assoc,List.getElem?_append_right (Nat.le_refl _),hS]; simp
  have q2:(μ4++[S]++τ5++[S])[(μ4++[S]++τ5).length]?=some (.cells [.int .i64 r,.int .i64 d,.int .i64 c] ty_api_Shape true):=by
    rw[hS]; simp
  obtain ⟨a0,a1,a2⟩:=box3_ld q1
  obtain ⟨b0,b1,b2⟩:=box3_ld q2
  obtain ⟨τ6,e15⟩:=Looks_l0_to (k+3) (by omega) a ha (q:=(μ4++[S]++τ5).length) (show r≤1000 by omega) (r+2).toNat (k+10) (-1) _ W7 q2 (by omega) (by omega) (by omega)
  have q3:(μ4++[S]++τ5++[S]++τ6)[(μ4++[S]++τ5).length]?=_:=(List.getElem?_append_left (getElem?_lt q2)).trans q2
  obtain ⟨τ7,e16⟩:=Looks_l1_to (k+3) (by omega) a ha (q:=(μ4++[S]++τ5).length) (show d≤1000 by omega) (d+2).toNat (k+10) (-1) _ (W7.app τ6) q3 (by omega) (by omega) (by omega)
  have hfin:∃ τ,μ4++[S]++τ5++[S]++τ6++τ7=σ++τ:=⟨τ1++τ2++τ3++τ4++[S]++τ5++[S]++τ6++τ7,by rw[← hμ4]; simp only[List.append_assoc]⟩
  obtain ⟨τ,hτ⟩:=hfin
  refine ⟨τ, ?_⟩
  rw[d_law02_Looks_eq,b_law02_Looks]
  simp only[e1,Option.bind_some,r_ii_eq,e2,bne_self_eq_false,cond_false,e3,toB_bool,e4,beq_self_eq_true,Bool.not_true,e5,e6,e7,e8,e9,e10,e11,e12,e13]
  have tt:∀ v w:Value,toT (.tuple #[v,w])=some [v,w]:=fun v w=>rfl
  simp only[tt,Option.bind_some,List.length_cons,List.length_nil,Nat.zero_add,Nat.reduceAdd,if_true,List.head?_cons,List.tail_cons,a_iii_eq,toI_int,allocK,st,e14,a0,a1,a2,b0,b1,b2,eqShape,beq_self_eq_true,cond_true,Bool.not_true,cond_false,bne_self_eq_false,e15,e16,reduceCtorEq,if_false,hτ]
end
section
open Go Go.AX
noncomputable local instance qSG:Quiet:=fullQuiet
local instance nSG:Kn:=⟨true⟩
variable {σ:AMem} {m:HM} {t:RM} {i:HIds} {j:RI}
theorem at_int {s:SlV} {l:List Int} (h:SlAt ty_int 1 σ s l.length (inRow l)) {x:Nat} (hx:x<l.length):∃ b,s.1=some ⟨b,0,none⟩∧ldI .i64 σ b x=some (l.getD x 0):=by
  rcases h with ⟨h,_⟩ | ⟨b,rfl,_,_,hc⟩
  · omega
  · exact ⟨b,rfl,ld_row hc hx⟩
theorem at_bool {s:SlV} {l:List Bool} (h:SlAt ty_bool 1 σ s l.length (boRow l)) {x:Nat} (hx:x<l.length):∃ b,s.1=some ⟨b,0,none⟩∧ldB σ b x=some (l.getD x false):=by
  rcases h with ⟨h,_⟩ | ⟨b,rfl,_,_,hc⟩
  · omega
  · exact ⟨b,rfl,ldB_at hc hx⟩
theorem sl_run {s:SlV} {l:List (Nat × Nat)} (h:SlAt ty_api_Run 2 σ s l.length (runRow l)) {x:Nat} (hx:x<l.length):∃ b,s.1=some ⟨b,0,none⟩∧ldI .i64 σ b (x*2)=some ((l.getD x (0,0)).1:Int)∧ldI .i64 σ b (x*2+1)=some ((l.getD x (0,0)).2:Int):=by
  rcases h with ⟨h,_⟩ | ⟨b,rfl,_,_,hc⟩
  · omega
  · obtain ⟨h1,h2⟩:=runRow_get l x hx
    exact ⟨b,rfl,by simp only[ldI,ld1,hc,h1,Option.bind_some,toI_int],by simp only[ldI,ld1,hc,h2,Option.bind_some,toI_int]⟩
theorem ints_l0_same (k:Nat) {s1 s2:SlV} {l:List Int} (h1:SlAt ty_int 1 σ s1 l.length (inRow l)) (h2:SlAt ty_int 1 σ s2 l.length (inRow l)) (hl:l.length≤100000):∀ (n x f:Nat),x+n=l.length→n<f →
    d_law02_ints_l0 k f s1.1 l.length s1.2.2 s2.1 l.length s2.2.2 (x:Int) σ=some (.exit 0,[],σ)
  | n,x,0,hx,hf=>by omega
  | 0,x,f+1,hx,hf=>by
    rw[d_law02_ints_l0_eq,b_law02_ints_l0]
    simp only[decide_eq_false (show ¬ (x:Int)<((l.length:Nat):Int) by omega),cond_false]
  | n+1,x,f+1,hx,hf=>by
    obtain ⟨b1,e1,l1⟩:=at_int h1 (x:=x) (by omega)
    obtain ⟨b2,e2,l2⟩:=at_int h2 (x:=x) (by omega)
    have qx:(0≤(x:Int)∧(x:Int)<((l.length:Nat):Int))=True:=eq_true (by omega)
    have w1:w64 ((x:Int)+1)=((x+1:Nat):Int):=w64_in (by unfold inI; omega)
    have ih:=ints_l0_same k h1 h2 hl n (x+1) f (by omega) (by omega)
    rw[e1,e2] at ih
    rw[d_law02_ints_l0_eq,b_law02_ints_l0]
    simp only[decide_eq_true (show (x:Int)<((l.length:Nat):Int) by omega),cond_true,qx,if_true,e1,e2,Option.bind_some,Int.toNat_natCast,Nat.mul_one,Nat.zero_add,l1,l2,bne_self_eq_false,cond_false,w1,ih]
theorem ints_same (k:Nat) {s1 s2:SlV} {l:List Int} (h1:SlAt ty_int 1 σ s1 l.length (inRow l)) (h2:SlAt ty_int 1 σ s2 l.length (inRow l)) (hl:l.length≤100000) (hk:l.length<k):d_law02_ints (k+1) (s1.1,s1.2.1,s1.2.2) (s2.1,s2.2.1,s2.2.2) σ=some (.bool true,σ):=by
  have e:=ints_l0_same k h1 h2 hl l.length 0 k (by omega) hk
  have e':d_law02_ints_l0 k k s1.1 l.length s1.2.2 s2.1 l.length s2.2.2 0 σ=_:=e
  rw[d_law02_ints_eq,b_law02_ints]
  simp only[h1.len,h2.len,bne_self_eq_false,cond_false,e',Option.bind_some,if_true]
theorem bools_l0_same (k:Nat) {s1 s2:SlV} {l:List Bool} (h1:SlAt ty_bool 1 σ s1 l.length (boRow l)) (h2:SlAt ty_bool 1 σ s2 l.length (boRow l)) (hl:l.length≤100000):∀ (n x f:Nat),x+n=l.length→n<f →
    d_law02_bools_l0 k f s1.1 l.length s1.2.2 s2.1 l.length s2.2.2 (x:Int) σ=some (.exit 0,[],σ)
  | n,x,0,hx,hf=>by omega
  | 0,x,f+1,hx,hf=>by
    rw[d_law02_bools_l0_eq,b_law02_bools_l0]
    simp only[decide_eq_false (show ¬ (x:Int)<((l.length:Nat):Int) by omega),cond_false]
  | n+1,x,f+1,hx,hf=>by
    obtain ⟨b1,e1,l1⟩:=at_bool h1 (x:=x) (by omega)
    obtain ⟨b2,e2,l2⟩:=at_bool h2 (x:=x) (by omega)
    have qx:(0≤(x:Int)∧(x:Int)<((l.length:Nat):Int))=True:=eq_true (by omega)
    have w1:w64 ((x:Int)+1)=((x+1:Nat):Int):=w64_in (by unfold inI; omega)
    have ih:=bools_l0_same k h1 h2 hl n (x+1) f (by omega) (by omega)
    rw[e1,e2] at ih
    rw[d_law02_bools_l0_eq,b_law02_bools_l0]
    simp only[decide_eq_true (show (x:Int)<((l.length:Nat):Int) by omega),cond_true,qx,if_true,e1,e2,Option.bind_some,Int.toNat_natCast,Nat.mul_one,Nat.zero_add,l1,l2,beq_self_eq_true,Bool.not_true,cond_false,w1,ih]
theorem bools_same (k:Nat) {s1 s2:SlV} {l:List Bool} (h1:SlAt ty_bool 1 σ s1 l.length (boRow l)) (h2:SlAt ty_bool 1 σ s2 l.length (boRow l)) (hl:l.length≤100000) (hk:l.length<k):d_law02_bools (k+1) (s1.1,s1.2.1,s1.2.2) (s2.1,s2.2.1,s2.2.2) σ=some (.bool true,σ):=by
  have e:=bools_l0_same k h1 h2 hl l.length 0 k (by omega) hk
  have e':d_law02_bools_l0 k k s1.1 l.length s1.2.2 s2.1 l.length s2.2.2 0 σ=_:=e
  rw[d_law02_bools_eq,b_law02_bools]
  simp only[h1.len,h2.len,bne_self_eq_false,cond_false,e',Option.bind_some,if_true]
theorem eqRun (a b a' b':Int):eqA P ty_api_Run (.agg #[.int .i64 a,.int .i64 b]) (.agg #[.int .i64 a',.int .i64 b'])=(bif a == a' then some (b == b') else some false):=by kernel_rfl
theorem runs_l0_same (k:Nat) {s1 s2:SlV} {l:List (Nat × Nat)} (h1:SlAt ty_api_Run 2 σ s1 l.length (runRow l)) (h2:SlAt ty_api_Run 2 σ s2 l.length (runRow l)) (hl:l.length≤100000):∀ (n x f:Nat),x+n=l.length→n<f →
    d_ref01_SameRuns_l0 k f s1.1 l.length s1.2.2 s2.1 l.length s2.2.2 (x:Int) σ=some (.exit 0,[],σ)
  | n,x,0,hx,hf=>by omega
  | 0,x,f+1,hx,hf=>by
    rw[d_ref01_SameRuns_l0_eq,b_ref01_SameRuns_l0]
    simp only[decide_eq_false (show ¬ (x:Int)<((l.length:Nat):Int) by omega),cond_false]
  | n+1,x,f+1,hx,hf=>by
    obtain ⟨b1,e1,l1,l1'⟩:=sl_run h1 (x:=x) (by omega)
    obtain ⟨b2,e2,l2,l2'⟩:=sl_run h2 (x:=x) (by omega)
    have qx:(0≤(x:Int)∧(x:Int)<((l.length:Nat):Int))=True:=eq_true (by omega)
    have w1:w64 ((x:Int)+1)=((x+1:Nat):Int):=w64_in (by unfold inI; omega)
    have ih:=runs_l0_same k h1 h2 hl n (x+1) f (by omega) (by omega)
    rw[e1,e2] at ih
    rw[d_ref01_SameRuns_l0_eq,b_ref01_SameRuns_l0]
    simp only[decide_eq_true (show (x:Int)<((l.length:Nat):Int) by omega),cond_true,qx,if_true,e1,e2,Option.bind_some,Int.toNat_natCast,Nat.zero_add,l1,l1',l2,l2',eqRun,beq_self_eq_true,Bool.not_true,cond_false,w1,ih]
theorem runs_same (k:Nat) {s1 s2:SlV} {l:List (Nat × Nat)} (h1:SlAt ty_api_Run 2 σ s1 l.length (runRow l)) (h2:SlAt ty_api_Run 2 σ s2 l.length (runRow l)) (hl:l.length≤100000) (hk:l.length<k):d_ref01_SameRuns (k+1) (s1.1,s1.2.1,s1.2.2) (s2.1,s2.2.1,s2.2.2) σ=some (.bool true,σ):=by
  have e:=runs_l0_same k h1 h2 hl l.length 0 k (by omega) hk
  have e':d_ref01_SameRuns_l0 k k s1.1 l.length s1.2.2 s2.1 l.length s2.2.2 0 σ=_:=e
  rw[d_ref01_SameRuns_eq,b_ref01_SameRuns]
  simp only[h1.len,h2.len,bne_self_eq_false,cond_false,e',Option.bind_some,if_true]
theorem addrs_len (L:List Nat):(addrs L).length=L.length:=by simp[addrs]
theorem Same_l0_to (k:Nat) (hk:5000≤k):∀ (n f:Nat) (x:Int) (σ:AMem),Two σ i j m t→x+n=(m.bls.length:Int)+1 → -1≤x→n<f →
    ∃ τ,d_law02_Same_l0 (k+11) f (hptr i) (rptr j) x σ=some (.exit 0,[],σ++τ)
  | n,0,x,σ,W,hx,h1,hf=>by omega
  | 0,f+1,x,σ,W,hx,h1,hf=>by
    have e1:d_ref02_Heap_Blocks (k+11) (rptr j) σ=_:=rBlocks_to (k+9) W.g
    rw[d_law02_Same_l0_eq,b_law02_Same_l0]
    exact ⟨[],by simp only[e1,Option.bind_some,toI_int,decide_eq_false (show ¬ x≤((m.bls.length:Nat):Int) by omega),cond_false,List.append_nil]⟩
  | n+1,f+1,x,σ,W,hx,h1,hf=>by
    have hnt:=W.g.nt
    have e1:d_ref02_Heap_Blocks (k+11) (rptr j) σ=_:=rBlocks_to (k+9) W.g
    have e2:d_heap_Heap_State (k+11) (hptr i) x σ=_:=State_g (k+8) W.h x
    have e3:d_ref02_Heap_State (k+11) (rptr j) x σ=_:=rState_to (k+9) W.g x
    have e4:d_heap_Heap_Space (k+11) (hptr i) x σ=_:=Space_g (k+8) W.h x
    have e5:d_ref02_Heap_Space (k+11) (rptr j) x σ=_:=rSpace_to (k+9) W.g x
    obtain ⟨τ1,u1,e6,i1⟩:=Objects_g (k+5) (by omega) W.h x
    have W1:=W.app τ1
    obtain ⟨τ2,u2,e7,i2⟩:=rObjects_to (k+9) (by omega) W1.g x
    have W2:=W1.app τ2
    have ol:(addrs (objsI m x)).length≤100000∧(addrs (objsI m x)).length<k:=by
      rw[addrs_len]
      unfold objsI
      split
      · have:=starts_len m (32*x.toNat) 32; omega
      · simp; omega
    have e8:=ints_same (σ:=σ++τ1++τ2) (k+10) (s1:=u1) (s2:=u2) (l:=addrs (objsI m x)) (i1.sl.app τ2) i2.sl ol.1 (by omega)
    obtain ⟨τ3,u3,e9,g3,_⟩:=Gaps_g (k+4) (by omega) W2.h W.g.inv W.b0 x
    have W3:=W2.app τ3
    obtain ⟨τ4,u4,e10,g4,_⟩:=rGaps_to (k+7) (by omega) W3.g x
    have W4:=W3.app τ4
    have gl:=gapsI_len m x
    have e11:=runs_same (σ:=σ++τ1++τ2++τ3++τ4) (k+10) (s1:=u3) (s2:=u4) (l:=gapsI m x) (g3.app τ4) g4 (by omega) (by omega)
    obtain ⟨τ5,u5,e12,g5,_⟩:=Lines_g (k+4) (by omega) W4.h W.g.inv W.g.inv2 W.b0 x
    have W5:=W4.app τ5
    obtain ⟨τ6,u6,e13,g6,_⟩:=rLines_to (k+7) (by omega) W5.g x
    have W6:=W5.app τ6
    have ll:(linesI m x).length≤8:=by
      unfold linesI
      split
      · rw[linesN_len]; exact Nat.le_refl _
      · simp
    have e14:=bools_same (σ:=σ++τ1++τ2++τ3++τ4++τ5++τ6) (k+10) (s1:=u5) (s2:=u6) (l:=linesI m x) (g5.app τ6) g6 (by omega) (by omega)
    obtain ⟨τ7,e15⟩:=Same_l0_to k hk n f (x+1) _ W6 (by omega) (by omega) (by omega)
    have w1:w64 (x+1)=x+1:=w64_in (by unfold inI; omega)
    refine ⟨τ1++τ2++τ3++τ4++τ5++τ6++τ7, ?_⟩
    rw[d_law02_Same_l0_eq,b_law02_Same_l0]
    simp only[e1,Option.bind_some,toI_int,decide_eq_true (show x≤((m.bls.length:Nat):Int) by omega),cond_true,e2,e3,bne_self_eq_false,cond_false,e4,e5,e6,toS,e7,e8,toB_bool,Bool.not_true,e9,e10,e11,e12,e13,e14,w1,e15]
    simp only[List.append_assoc]
theorem Same_l1_to (k:Nat) (hk:5000≤k):∀ (n f:Nat) (x:Int) (σ:AMem),Two σ i j m t→x+n=64*(m.bls.length:Int)+1 → -1≤x→n<f →
    ∃ τ,d_law02_Same_l1 (k+11) f (hptr i) (rptr j) x σ=some (.exit 2,[],σ++τ)
  | n,0,x,σ,W,hx,h1,hf=>by omega
  | 0,f+1,x,σ,W,hx,h1,hf=>by
    have hnt:=W.g.nt
    have e1:d_ref02_Heap_Blocks (k+11) (rptr j) σ=_:=rBlocks_to (k+9) W.g
    have w:w64 (((m.bls.length:Nat):Int)*64)=64*(m.bls.length:Int):=by rw[w64_in (by unfold inI; omega)]; omega
    rw[d_law02_Same_l1_eq,b_law02_Same_l1]
    exact ⟨[],by simp only[e1,Option.bind_some,toI_int,w,decide_eq_false (show ¬ x≤64*(m.bls.length:Int) by omega),cond_false,List.append_nil]⟩
  | n+1,f+1,x,σ,W,hx,h1,hf=>by
    have hnt:=W.g.nt
    have e1:d_ref02_Heap_Blocks (k+11) (rptr j) σ=_:=rBlocks_to (k+9) W.g
    have w:w64 (((m.bls.length:Nat):Int)*64)=64*(m.bls.length:Int):=by rw[w64_in (by unfold inI; omega)]; omega
    have e2:d_ref02_Heap_State (k+11) (rptr j) (w64 (x.tdiv 64)) σ=_:=rState_to (k+9) W.g (w64 (x.tdiv 64))
    have w1:w64 (x+1)=x+1:=w64_in (by unfold inI; omega)
    generalize stateI m (w64 (x.tdiv 64))=s at e2
    have skip:∃ τ,d_law02_Same_l1 (k+11) f (hptr i) (rptr j) (x+1) σ=some (.exit 2,[],σ++τ):=Same_l1_to k hk n f (x+1) σ W (by omega) (by omega) (by omega)
    obtain ⟨τ1,e3⟩:=Looks_to k hk W x (by unfold inI; omega)
    obtain ⟨τ2,e4⟩:=Same_l1_to k hk n f (x+1) _ (W.app τ1) (by omega) (by omega) (by omega)
    obtain ⟨τ3,e5⟩:=skip
    rw[d_law02_Same_l1_eq,b_law02_Same_l1]
    simp only[e1,Option.bind_some,toI_int,w,decide_eq_true (show x≤64*(m.bls.length:Int) by omega),cond_true,show ((64:Int)=0)=False from by decide,show ((17:Int)=0)=False from by decide,if_false,e2]
    have look:∃ τ,((d_law02_Looks (k+11) (hptr i) (rptr j) x σ).bind fun r63=>(toB r63.1).bind fun b64=>bif !b64 then (some (AExit.ret,[Value.bool false],r63.2)) else (d_law02_Same_l1 (k+11) f (hptr i) (rptr j) (w64 (x+1)) r63.2))=some (AExit.exit 2,[],σ++τ):=
      ⟨τ1++τ2,by simp only[e3,Option.bind_some,toB_bool,Bool.not_true,cond_false,w1,e4]; simp only[List.append_assoc]⟩
    cases hs:(s == 0) with
    | true=>
      simp only[cond_true,Option.bind_some]
      cases hq:(x.tmod 17 != 0) with
      | true=>
        simp only[cond_true,w1]
        exact ⟨τ3,e5⟩
      | false=>
        simp only[cond_false]
        exact look
    | false=>
      simp only[cond_false,Option.bind_some]
      exact look
theorem Same_l2_to (k:Nat) (hk:5000≤k) (W:Two σ i j m t):∀ (n f:Nat) (x:Int),x+n=m.births+2 → -1≤x→n<f→d_law02_Same_l2 (k+11) f (hptr i) (rptr j) x σ=some (.exit 4,[],σ)
  | n,0,x,hx,h1,hf=>by omega
  | 0,f+1,x,hx,h1,hf=>by
    have hb:=W.br
    have hb0:=W.g.inv.brt
    have e1:d_ref02_Heap_Births (k+11) (rptr j) σ=_:=rBirths_to (k+9) W.g
    have w:w64 (m.births+1)=m.births+1:=w64_in (by unfold inI; omega)
    rw[d_law02_Same_l2_eq,b_law02_Same_l2]
    simp only[e1,Option.bind_some,toI_int,w,decide_eq_false (show ¬ x≤m.births+1 by omega),cond_false]
  | n+1,f+1,x,hx,h1,hf=>by
    have hb:=W.br
    have hb0:=W.g.inv.brt
    have e1:d_ref02_Heap_Births (k+11) (rptr j) σ=_:=rBirths_to (k+9) W.g
    have w:w64 (m.births+1)=m.births+1:=w64_in (by unfold inI; omega)
    have w1:w64 (x+1)=x+1:=w64_in (by unfold inI; omega)
    have e2:d_heap_Heap_At (k+11) (hptr i) x σ=_:=at_h (k+9) W.h x
    have e3:d_ref02_Heap_At (k+11) (rptr j) x σ=_:=at_r (k+9) (by omega) W.g x
    rw[d_law02_Same_l2_eq,b_law02_Same_l2]
    simp only[e1,Option.bind_some,toI_int,w,decide_eq_true (show x≤m.births+1 by omega),cond_true,e2,r_ii_eq,e3,bne_self_eq_false,cond_false,w1]
    exact Same_l2_to k hk W n f (x+1) (by omega) (by omega) (by omega)
theorem eqPH (a:Addr):eqA P pt_heap_Heap (.pointer (some a)) (.pointer none)=some false:=by kernel_rfl
theorem eqPR (a:Addr):eqA P pt_dustcartref02_Heap (.pointer (some a)) (.pointer none)=some false:=by kernel_rfl
theorem eqPHn:eqA P pt_heap_Heap (.pointer none) (.pointer none)=some true:=by kernel_rfl
theorem eqPRn:eqA P pt_dustcartref02_Heap (.pointer none) (.pointer none)=some true:=by kernel_rfl
theorem Same_to (k:Nat) (hk:5000≤k) (W:Two σ i j m t):∃ τ,d_law02_Same (k+12) (hptr i) (rptr j) σ=some (.bool true,σ++τ):=by
  have hnt:=W.g.nt
  have hnb:=W.g.nb
  have hb:=W.br
  have hb0:=W.g.inv.brt
  have e1:d_heap_Heap_Blocks (k+11) (hptr i) σ=_:=Blocks_to (k+9) W.h
  have e2:d_ref02_Heap_Blocks (k+11) (rptr j) σ=_:=rBlocks_to (k+9) W.g
  have e3:d_heap_Heap_Births (k+11) (hptr i) σ=_:=Births_to (k+9) W.h
  have e4:d_ref02_Heap_Births (k+11) (rptr j) σ=_:=rBirths_to (k+9) W.g
  obtain ⟨τ1,e5⟩:=Used_to (k+4) (by omega) W.h
  have W1:=W.app τ1
  obtain ⟨τ2,e6⟩:=rUsed_to (k+8) (by omega) W1.g
  have W2:=W1.app τ2
  obtain ⟨τ3,u1,e7,i1⟩:=All_to (k+5) (by omega) W2.h
  have W3:=W2.app τ3
  obtain ⟨τ4,u2,e8,i2⟩:=rAll_to (k+9) (by omega) W3.g
  have W4:=W3.app τ4
  have al:(addrs (allS m)).length≤2048:=by
    rw[addrs_len]; have:=starts_len m 0 (32*m.bls.length); unfold allS; omega
  have e9:=ints_same (σ:=σ++τ1++τ2++τ3++τ4) (k+10) (s1:=u1) (s2:=u2) (l:=addrs (allS m)) (IntsAt.sl (show IntsAt _ _ u1 (addrs (allS m)) from i1) |>.app τ4) i2.sl (by omega) (by omega)
  obtain ⟨τ5,e10⟩:=Same_l0_to k hk (m.bls.length+2) (k+11) (-1) _ W4 (by omega) (by omega) (by omega)
  have W5:=W4.app τ5
  obtain ⟨τ6,e11⟩:=Same_l1_to k hk (64*m.bls.length+2) (k+11) (-1) _ W5 (by omega) (by omega) (by omega)
  have W6:=W5.app τ6
  have e12:=Same_l2_to k hk W6 (m.births+3).toNat (k+11) (-1) (by omega) (by omega) (by omega)
  refine ⟨τ1++τ2++τ3++τ4++τ5++τ6, ?_⟩
  rw[d_law02_Same_eq,b_law02_Same]
  simp only[e1,e2,e3,e4,Option.bind_some,toI_int,bne_self_eq_false,cond_false,e5,e6,e7,toS,e8,e9,toB_bool,Bool.not_true,eqPH,eqPR,beq_self_eq_true,e10,e11,e12,if_true,reduceCtorEq,if_false]
  simp only[List.append_assoc]
end
end Go.Proofs.YtlaplcglpnlieaaGreat
