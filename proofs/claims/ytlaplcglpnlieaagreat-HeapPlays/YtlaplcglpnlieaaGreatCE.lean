/-
  Slices of any elements: appended to.
-/
import Derived.Test.YtlaplcglpnlieaaGreatLB
set_option linter.unusedVariables false
set_option linter.unusedSimpArgs false
namespace Go.Proofs.YtlaplcglpnlieaaGreat
open Go Go.AX
noncomputable local instance qCE:Quiet:=fullQuiet
local instance nCE:Kn:=⟨true⟩
variable {σ:AMem} {i:HIds} {m:HM}
def SlAt (E:TypeId) (s:Nat) (σ:AMem) (sl:SlV) (n:Nat) (row:List Value):Prop:=
  (n=0∧row=[]∧sl=(none,0,0)) ∨ ∃ b,sl=(some ⟨b,0,none⟩,n,n)∧0≤n∧row.length=n*s∧σ[b]?=some (.cells row E true)
theorem SlAt.len {E:TypeId} {s n:Nat} {sl:SlV} {row:List Value} (h:SlAt E s σ sl n row):sl.2.1=n:=by
  rcases h with ⟨rfl,_,rfl⟩ | ⟨b,rfl,_⟩ <;> rfl
theorem SlAt.form {E:TypeId} {s n:Nat} {sl:SlV} {row:List Value} (h:SlAt E s σ sl n row):sl=(sl.1,n,n):=by
  rcases h with ⟨rfl,_,rfl⟩ | ⟨b,rfl,_⟩ <;> rfl
theorem SlAt.nil (E:TypeId) (s:Nat) (σ:AMem):SlAt E s σ (none,0,0) 0 []:=.inl ⟨rfl,rfl,rfl⟩
theorem SlAt.like {E:TypeId} {s n:Nat} {σ':AMem} {sl:SlV} {row:List Value} (h:SlAt E s σ sl n row) (hs:∀ a,sl.1=some a→σ'[a.block]?=σ[a.block]?):SlAt E s σ' sl n row:=by
  rcases h with h | ⟨b,rfl,h1,h2,h3⟩
  · exact .inl h
  · exact .inr ⟨b,rfl,h1,h2,by rw[hs _ rfl]; exact h3⟩
theorem SlAt.lt {E:TypeId} {s n:Nat} {sl:SlV} {row:List Value} (h:SlAt E s σ sl n row):∀ a,sl.1=some a→a.block<σ.length:=by
  rcases h with ⟨_,_,rfl⟩ | ⟨b,rfl,h1,h2,h3⟩
  · intro a e; cases e
  · intro a e; cases e; exact getElem?_lt h3
theorem SlAt.app {E:TypeId} {s n:Nat} {sl:SlV} {row:List Value} (h:SlAt E s σ sl n row) (τ:AMem):SlAt E s (σ++τ) sl n row:=
  h.like fun a ha=>List.getElem?_append_left (h.lt a ha)
theorem IntsAt.sl {lo:Nat} {s:SlV} {l:List Int} (h:IntsAt lo σ s l):SlAt ty_int 1 σ s l.length (inRow l):=by
  rcases h with ⟨rfl,rfl⟩ | ⟨b,h1,rfl,h3,h4⟩
  · exact .inl ⟨rfl,rfl,rfl⟩
  · exact .inr ⟨b,rfl,Nat.zero_le _,by rw[inRow_length,Nat.mul_one],h4⟩
theorem append_any {E:TypeId} {s by_:Nat} {z:Value} (hs:szOf P E=some s) (hb:bytesOf P E=some by_) (hz:zerosOf P E=some z) (hz1:isTup z=false) (hz2:z.cells.size=s) (hs0:0<s) (hb0:0<by_) (hb1:by_≤1000)
    (σ:AMem) (sl:SlV) (n:Nat) (row:List Value) (src:Option Addr) (n' c:Nat) (row':List Value) (hn:n+n'≤1000000) (hn0:0<n') (hr:row'.length=n'*s) (hsl:SlAt E s σ sl n row) (hx:firstA σ s src n'=some row'):
    ∃ s' σ',appendD P E sl (src,n',c) σ=some (s',σ')∧Grows σ sl σ' s'∧SlAt E s σ' s' (n+n') (row++row'):=by
  unfold appendD appendA
  simp only[hs,hb,hz,Option.bind_some,hx]
  have h1:(¬ (isTup z=false∧some s=some z.cells.size∧0<z.cells.size))=False:=by
    rw[hz1,hz2]; simp[hs0]
  simp only[h1,if_false]
  have hm:(n+n')*by_≤1000000*1000:=Nat.mul_le_mul hn hb1
  have r:roomOk (n+n') by_∧0<by_:=⟨⟨by omega,by omega⟩,hb0⟩
  rcases hsl with ⟨rfl,rfl,rfl⟩ | ⟨b,rfl,hp,hl,hcell⟩
  · simp only[show ¬ (0+n'≤0) from by omega,if_false,r,and_self,if_true,fixedB,cond_true,slK]
    refine ⟨_,_,rfl,⟨by simp,fun q hq _=>List.getElem?_append_left hq,.inr fun a ha=>by cases ha; exact Nat.le_refl _⟩,.inr ⟨σ.length,by simp,by omega,by simpa using hr,by simp⟩⟩
  · have hb2:=getElem?_lt hcell
    have e1:elemAt σ b=some E:=by simp[elemAt,hcell]
    have e2:ldN σ b 0 (n*s)=some row:=by
      simp only[ldN,hcell,hl,Nat.zero_add,Nat.le_refl,if_true,List.drop_zero]
      rw[List.take_of_length_le (Nat.le_of_eq hl)]
    have e3:writableB σ b=true:=by simp[writableB,hcell]
    simp only[show ¬ (n+n'≤n) from by omega,if_false,r,and_self,if_true,fixedB,Option.isSome_none,cond_false,Option.bind_some,e1,e2,e3,cond_true,slK]
    refine ⟨_,_,rfl,⟨by simp,fun q hq hn=>?_,.inr fun a ha=>?_⟩,.inr ⟨σ.length,rfl,by omega,by rw[List.length_append,hl,hr,Nat.add_mul],by simp⟩⟩
    · rw[List.getElem?_append_left (by simpa using hq),List.getElem?_set_ne (hn _ rfl)]
    · cases ha; exact Nat.le_refl _
theorem push_any {E:TypeId} {s by_:Nat} {z:Value} (hs:szOf P E=some s) (hb:bytesOf P E=some by_) (hz:zerosOf P E=some z) (hz1:isTup z=false) (hz2:z.cells.size=s) (hs0:0<s) (hb0:0<by_) (hb1:by_≤1000)
    (σ:AMem) (sl:SlV) (n:Nat) (row:List Value) (n' c:Nat) (row':List Value) (T:TypeId) (hn:n+n'≤1000000) (hn0:0<n') (hr:row'.length=n'*s) (hsl:SlAt E s σ sl n row):
    ∃ s' σ',appendD P E sl (some ⟨σ.length,0,none⟩,n',c) (σ++[.cells row' T true])=some (s',σ')∧Grows σ sl σ' s'∧SlAt E s σ' s' (n+n') (row++row'):=by
  obtain ⟨s',σ',e,g,h⟩:=append_any hs hb hz hz1 hz2 hs0 hb0 hb1 (σ++[.cells row' T true]) sl n row (some ⟨σ.length,0,none⟩) n' c row' hn hn0 hr (hsl.app _) (by
    simp only[firstA,ldN,List.getElem?_concat_length,hr,Nat.zero_add,Nat.le_refl,if_true,List.drop_zero]
    rw[List.take_of_length_le (Nat.le_of_eq hr)])
  exact ⟨s',σ',e,(Grows.app _ _ _).trans g,h⟩
theorem ints_at {lo:Nat} {s:SlV} {l:List Int} (h:IntsAt lo σ s l) {x:Nat} (hx:x<l.length):∃ b,s=(some ⟨b,0,none⟩,l.length,l.length)∧lo≤b∧σ[b]?=some (.cells (inRow l) ty_int true)∧ldI .i64 σ b x=some (l.getD x 0):=by
  rcases h with ⟨he,_⟩ | ⟨b,h1,h2,h3,h4⟩
  · rw[he] at hx; simp at hx
  · refine ⟨b,h2,h1,h4, ?_⟩
    have h':IntsAt lo σ (some ⟨b,0,none⟩,l.length,l.length) l:=.inr ⟨b,h1,rfl,h3,h4⟩
    exact h'.ld hx
theorem ld_row {b x:Nat} {l:List Int} {T:TypeId} {rw':Bool} (h:σ[b]?=some (.cells (inRow l) T rw')) (hx:x<l.length):ldI .i64 σ b x=some (l.getD x 0):=by
  simp only[ldI,ld1,h]
  simp[inRow,List.getElem?_map,List.getElem?_eq_getElem hx,List.getD_eq_getElem?_getD,toI]
theorem st_row {b x:Nat} {l:List Int} {T:TypeId} (h:σ[b]?=some (.cells (inRow l) T true)) (hx:x<l.length) (v:Int):st1 σ b x (.int .i64 v)=some (σ.set b (.cells (inRow (l.set x v)) T true)):=by
  simp only[st1,h]
  rw[if_pos (by rw[inRow_length]; exact hx),inRow_set]
theorem block_of (hI:Inv m) (hI2:Inv2 m) {j q:Nat} (hj:Start m j) (h1:2*j≤q) (h2:q<2*j+sz m j) (hs:(m.bls.getD (q/64) (0,0)).1=1):2*j/64=q/64:=by
  have hz:=hI.size hj
  obtain ⟨k1,k2⟩:=hI2.kind j hj
  by_cases hw:sz m j≤32
  · have:=(k1 hw).2
    omega
  · obtain ⟨p1,p2,p3⟩:=k2 (by omega)
    rcases Nat.lt_or_ge (2*j/64) (q/64) with hlt | hge
    · have:=p3 (q/64) hlt (by omega)
      rw[hs] at this; exact absurd this (by decide)
    · omega
theorem word1 (hI:Inv m) {j:Nat} (hs:Start m j):m.wds.getD (2*j+1) 0=refsAt m j+16*dataAt m j+4096*kindAt m j∧0≤refsAt m j∧refsAt m j≤15∧0≤dataAt m j∧dataAt m j≤200∧0≤kindAt m j∧kindAt m j≤3∧words (refsAt m j) (dataAt m j) (kindAt m j)=(sz m j:Int):=by
  obtain ⟨r,d,k,hv,he⟩:=hI.good j hs
  obtain ⟨p1,p2,p3,_⟩:=num_parts hv
  have e1:refsAt m j=r:=by unfold refsAt; rw[he,p1]
  have e2:dataAt m j=d:=by unfold dataAt; rw[he,p2]
  have e3:kindAt m j=k:=by unfold kindAt; rw[he,p3]
  have hw:words (refsAt m j) (dataAt m j) (kindAt m j)=(sz m j:Int):=by
    unfold sz
    rw[szN_int]; rfl
  rw[e1,e2,e3] at *
  refine ⟨he, ?_⟩
  simp[valid] at hv
  refine ⟨hv.1,hv.2.1,hv.2.2.1,hv.2.2.2.1,hv.2.2.2.2.1,hv.2.2.2.2.2.1,hw⟩
theorem segL_like {m m':HM}:∀ (n a a':Nat),(∀ q,q<n→m'.wds.getD (a'+q) 0=m.wds.getD (a+q) 0)→segL m' a' n=segL m a n
  | 0,a,a',h=>rfl
  | n+1,a,a',h=>by
    rw[segL_cons,segL_cons,segL_like n (a+1) (a'+1) (fun q hq=>by have:=h (q+1) (by omega); rw[show a'+1+q=a'+(q+1) from by omega,show a+1+q=a+(q+1) from by omega]; exact this)]
    have:=h 0 (by omega)
    rw[Nat.add_zero,Nat.add_zero] at this
    rw[this]
theorem segL_app (m:HM):∀ (n a n':Nat),segL m a n++segL m (a+n) n'=segL m a (n+n')
  | 0,a,n'=>by simp[segL]
  | n+1,a,n'=>by
    rw[segL_cons,List.cons_append,show a+(n+1)=a+1+n from by omega,segL_app m n (a+1) n',show n+1+n'=n+n'+1 from by omega,segL_cons]
theorem segL_get (m:HM):∀ (n a q:Nat),q<n→(segL m a n)[q]?=some (m.wds.getD (a+q) 0)
  | 0,a,q,h=>by omega
  | n+1,a,0,h=>by rw[segL_cons]; rfl
  | n+1,a,q+1,h=>by rw[segL_cons,List.getElem?_cons_succ,segL_get m n (a+1) q (by omega),show a+1+q=a+(q+1) from by omega]
def anyF (m:HM):Nat→Nat→Bool
  | _,0=>false
  | a,n+1=>(findM m a).isSome || anyF m (a+1) n
theorem anyF_iff:∀ (n a:Nat),anyF m a n=true ↔ ∃ q,a≤q∧q<a+n∧(findM m q).isSome=true
  | 0,a=>by simp[anyF]; intro q h1 h2; omega
  | n+1,a=>by
    rw[anyF,Bool.or_eq_true,anyF_iff n (a+1)]
    constructor
    · rintro (h | ⟨q,h1,h2,h3⟩)
      · exact ⟨a,Nat.le_refl _,by omega,h⟩
      · exact ⟨q,by omega,by omega,h3⟩
    · rintro ⟨q,h1,h2,h3⟩
      rcases Nat.eq_or_lt_of_le h1 with rfl | h1
      · exact .inl h3
      · exact .inr ⟨q,h1,by omega,h3⟩
theorem line_any (hI:Inv m) (hI2:Inv2 m) (hw:m.wds.length=64*m.bls.length) {b t:Nat} (hb:b<m.bls.length) (hst:(m.bls.getD b (0,0)).1=1) (ht:t<8):(∃ j ∈ starts m (32*b) 32,lineIn m j t)↔anyF m (64*b+8*t) 8=true:=by
  rw[anyF_iff]
  constructor
  · rintro ⟨j,hj,l1,l2⟩
    obtain ⟨a1,a2,a3⟩:=mem_starts.1 hj
    have hs:Start m j:=⟨by omega,a3⟩
    have hz:=hI.size hs
    obtain ⟨z1,z2⟩:=in_used hI hI2 hst hs a1 a2
    have e:2*j % 64=2*j-64*b:=by omega
    rw[e] at l1 l2
    refine ⟨max (2*j) (64*b+8*t),by omega,by omega, ?_⟩
    rw[hI.find_some hs (by omega) (by omega)]; rfl
  · rintro ⟨q,h1,h2,h3⟩
    obtain ⟨j,hj⟩:=Option.isSome_iff_exists.1 h3
    obtain ⟨s1,_,s3,s4⟩:=findM_spec hj
    have hq:q/64=b:=by omega
    have hb':=block_of hI hI2 s1 s4 s3 (by rw[hq]; exact hst)
    have hz:=hI.size s1
    refine ⟨j,mem_starts.2 ⟨by omega,by omega,s1.2⟩, ?_, ?_⟩
    · have e:2*j % 64=2*j-64*b:=by omega
      rw[e]; omega
    · have e:2*j % 64=2*j-64*b:=by omega
      rw[e]; omega
end Go.Proofs.YtlaplcglpnlieaaGreat
