/- Slices of any elements: appended to.; Gaps.; The document's heap: a list of objects; how it answers to a heap.; The document's heap: how calls turn bo -/
import Derived.Test.YtlaplcglpnlieaaGreatP14
set_option linter.unusedVariables false
set_option linter.unusedSimpArgs false
set_option linter.unusedSectionVars false
section
namespace Go.Proofs.YtlaplcglpnlieaaGreat
open Go Go.AX
noncomputable local instance ve:AF:=Au
local instance tT:Kn:=⟨true⟩
variable {σ:Aa} {i:Cs} {m:HM}
def BQ (E:TypeId) (s:Nat) (σ:Aa) (sl:E8) (n:Nat) (row:List Value):Prop:=
 (n=0∧row=[]∧sl=(none,0,0)) ∨ ∃ b,sl=(some ⟨b,0,none⟩,n,n)∧0≤n∧row.length=n*s∧σ[b]?=some (.cells row E true)
theorem BQ.len {E:TypeId} {s n:Nat} {sl:E8} {row:List Value} (h:BQ E s σ sl n row):sl.2.1=n:=by
 rcases h with ⟨rfl,_,rfl⟩ | ⟨b,rfl,_⟩ <;> rfl
theorem BQ.form {E:TypeId} {s n:Nat} {sl:E8} {row:List Value} (h:BQ E s σ sl n row):sl=(sl.1,n,n):=by
 rcases h with ⟨rfl,_,rfl⟩ | ⟨b,rfl,_⟩ <;> rfl
theorem BQ.nil (E:TypeId) (s:Nat) (σ:Aa):BQ E s σ (none,0,0) 0 []:=.inl ⟨rfl,rfl,rfl⟩
theorem BQ.CT {E:TypeId} {s n:Nat} {σ':Aa} {sl:E8} {row:List Value} (h:BQ E s σ sl n row) (hs:∀ a,sl.1=some a→σ'[a.block]?=σ[a.block]?):BQ E s σ' sl n row:=by
 rcases h with h | ⟨b,rfl,h1,h2,h3⟩
 ·exact .inl h
 ·exact .inr ⟨b,rfl,h1,h2,by rw[hs _ rfl]; exact h3⟩
theorem BQ.lt {E:TypeId} {s n:Nat} {sl:E8} {row:List Value} (h:BQ E s σ sl n row):∀ a,sl.1=some a→a.block<σ.length:=by
 rcases h with ⟨_,_,rfl⟩ | ⟨b,rfl,h1,h2,h3⟩
 ·intro a e; cases e
 ·intro a e; cases e; exact Ae h3
theorem BQ.app {E:TypeId} {s n:Nat} {sl:E8} {row:List Value} (h:BQ E s σ sl n row) (τ:Aa):BQ E s (σ++τ) sl n row:=
 h.CT fun a ha=>List.getElem?_append_left (h.lt a ha)
theorem Du.sl {lo:Nat} {s:E8} {l:List Int} (h:Du lo σ s l):BQ B9 1 σ s l.length (Df l):=by
 rcases h with ⟨rfl,rfl⟩ | ⟨b,h1,rfl,h3,h4⟩
 ·exact .inl ⟨rfl,rfl,rfl⟩
 ·exact .inr ⟨b,rfl,Nat.zero_le _,by rw[Jr,Nat.mul_one],h4⟩
theorem PY {E:TypeId} {s by_:Nat} {z:Value} (hs:IW P E=some s) (hb:bytesOf P E=some by_) (hz:GL P E=some z) (hz1:J5 z=false) (hz2:z.cells.size=s) (hs0:0<s) (hb0:0<by_) (hb1:by_≤1000)
  (σ:Aa) (sl:E8) (n:Nat) (row:List Value) (src:Option Addr) (n' c:Nat) (row':List Value) (hn:n+n'≤1000000) (hn0:0<n') (hr:row'.length=n'*s) (hsl:BQ E s σ sl n row) (hx:GI σ s src n'=some row'):
  ∃ s' σ',Bv P E sl (src,n',c) σ=some (s',σ')∧EW σ sl σ' s'∧BQ E s σ' s' (n+n') (row++row'):=by
 unfold Bv Vg
 simp only[hs,hb,hz,Option.bind_some,hx]
 have h1:(¬ (J5 z=false∧some s=some z.cells.size∧0<z.cells.size))=False:=by
  rw[hz1,hz2]; simp[hs0]
 simp only[h1,if_false]
 have hm:(n+n')*by_≤1000000*1000:=Nat.mul_le_mul hn hb1
 have r:Tu (n+n') by_∧0<by_:=⟨⟨by omega,by omega⟩,hb0⟩
 rcases hsl with ⟨rfl,rfl,rfl⟩ | ⟨b,rfl,hp,hl,hcell⟩
 ·simp only[show ¬ (0+n'≤0) from by omega,if_false,r,and_self,if_true,Mg,cond_true,qX]
  refine ⟨_,_,rfl,⟨by simp,fun q hq _=>List.getElem?_append_left hq,.inr fun a ha=>by cases ha; exact Nat.le_refl _⟩,.inr ⟨σ.length,by simp,by omega,by simpa using hr,by simp⟩⟩
 ·have hb2:=Ae hcell
  have e1:elemAt σ b=some E:=by simp[elemAt,hcell]
  have e2:VV σ b 0 (n*s)=some row:=by
   simp only[VV,hcell,hl,Nat.zero_add,Nat.le_refl,if_true,List.drop_zero]
   rw[List.take_of_length_le (Nat.le_of_eq hl)]
  have e3:KW σ b=true:=by simp[KW,hcell]
  simp only[show ¬ (n+n'≤n) from by omega,if_false,r,and_self,if_true,Mg,Option.isSome_none,cond_false,Option.bind_some,e1,e2,e3,cond_true,qX]
  refine ⟨_,_,rfl,⟨by simp,fun q hq hn=>?_,.inr fun a ha=>?_⟩,.inr ⟨σ.length,rfl,by omega,by rw[List.length_append,hl,hr,Nat.add_mul],by simp⟩⟩
  ·rw[List.getElem?_append_left (by simpa using hq),List.getElem?_set_ne (hn _ rfl)]
  ·cases ha; exact Nat.le_refl _
theorem bJ {E:TypeId} {s by_:Nat} {z:Value} (hs:IW P E=some s) (hb:bytesOf P E=some by_) (hz:GL P E=some z) (hz1:J5 z=false) (hz2:z.cells.size=s) (hs0:0<s) (hb0:0<by_) (hb1:by_≤1000)
  (σ:Aa) (sl:E8) (n:Nat) (row:List Value) (n' c:Nat) (row':List Value) (T:TypeId) (hn:n+n'≤1000000) (hn0:0<n') (hr:row'.length=n'*s) (hsl:BQ E s σ sl n row):
  ∃ s' σ',Bv P E sl (some ⟨σ.length,0,none⟩,n',c) (σ++[.cells row' T true])=some (s',σ')∧EW σ sl σ' s'∧BQ E s σ' s' (n+n') (row++row'):=by
 obtain ⟨s',σ',e,g,h⟩:=PY hs hb hz hz1 hz2 hs0 hb0 hb1 (σ++[.cells row' T true]) sl n row (some ⟨σ.length,0,none⟩) n' c row' hn hn0 hr (hsl.app _) (by
  simp only[GI,VV,List.getElem?_concat_length,hr,Nat.zero_add,Nat.le_refl,if_true,List.drop_zero]
  rw[List.take_of_length_le (Nat.le_of_eq hr)])
 exact ⟨s',σ',e,(EW.app _ _ _).trans g,h⟩
theorem ints_at {lo:Nat} {s:E8} {l:List Int} (h:Du lo σ s l) {x:Nat} (hx:x<l.length):∃ b,s=(some ⟨b,0,none⟩,l.length,l.length)∧lo≤b∧σ[b]?=some (.cells (Df l) B9 true)∧Ai .i64 σ b x=some (l.getD x 0):=by
 rcases h with ⟨he,_⟩ | ⟨b,h1,h2,h3,h4⟩
 ·rw[he] at hx; simp at hx
 ·refine ⟨b,h2,h1,h4, ?_⟩
  have h':Du lo σ (some ⟨b,0,none⟩,l.length,l.length) l:=.inr ⟨b,h1,rfl,h3,h4⟩
  exact h'.ld hx
theorem oB {b x:Nat} {l:List Int} {T:TypeId} {rw':Bool} (h:σ[b]?=some (.cells (Df l) T rw')) (hx:x<l.length):Ai .i64 σ b x=some (l.getD x 0):=by
 simp only[Ai,Gy,h]
 simp[Df,List.getElem?_map,List.getElem?_eq_getElem hx,List.getD_eq_getElem?_getD,BA]
theorem nN (hI:Inv m) (hI2:Inv2 m) {j q:Nat} (hj:Start m j) (h1:2*j≤q) (h2:q<2*j+sz m j) (hs:(m.bls.getD (q/64) (0,0)).1=1):2*j/64=q/64:=by
 have hz:=hI.size hj
 obtain ⟨k1,k2⟩:=hI2.kind j hj
 by_cases hw:sz m j≤32
 ·have:=(k1 hw).2
  omega
 ·obtain ⟨p1,p2,p3⟩:=k2 (by omega)
  rcases Nat.lt_or_ge (2*j/64) (q/64) with hlt | hge
  ·have:=p3 (q/64) hlt (by omega)
   rw[hs] at this; exact absurd this (by decide)
  ·omega
theorem jh (hI:Inv m) {j:Nat} (hs:Start m j):m.wds.getD (2*j+1) 0=BV m j+16*E5 m j+4096*Hh m j∧0≤BV m j∧BV m j≤15∧0≤E5 m j∧E5 m j≤200∧0≤Hh m j∧Hh m j≤3∧words (BV m j) (E5 m j) (Hh m j)=(sz m j:Int):=by
 obtain ⟨r,d,k,hv,he⟩:=hI.good j hs
 obtain ⟨p1,p2,p3,_⟩:=MM hv
 have e1:BV m j=r:=by unfold BV; rw[he,p1]
 have e2:E5 m j=d:=by unfold E5; rw[he,p2]
 have e3:Hh m j=k:=by unfold Hh; rw[he,p3]
 have hw:words (BV m j) (E5 m j) (Hh m j)=(sz m j:Int):=by
  unfold sz
  rw[ZN]; rfl
 rw[e1,e2,e3] at *
 refine ⟨he, ?_⟩
 simp[valid] at hv
 refine ⟨hv.1,hv.2.1,hv.2.2.1,hv.2.2.2.1,hv.2.2.2.2.1,hv.2.2.2.2.2.1,hw⟩
theorem Vv {m m':HM}:∀ (n a a':Nat),(∀ q,q<n→m'.wds.getD (a'+q) 0=m.wds.getD (a+q) 0)→QC m' a' n=QC m a n
 | 0,a,a',h=>rfl
 | n+1,a,a',h=>by
   rw[SB,SB,Vv n (a+1) (a'+1) (fun q hq=>by have:=h (q+1) (by omega); rw[show a'+1+q=a'+(q+1) from by omega,show a+1+q=a+(q+1) from by omega]; exact this)]
   have:=h 0 (by omega)
   rw[Nat.add_zero,Nat.add_zero] at this
   rw[this]
theorem bX (m:HM):∀ (n a q:Nat),q<n→(QC m a n)[q]?=some (m.wds.getD (a+q) 0)
 | 0,a,q,h=>by omega
 | n+1,a,0,h=>by rw[SB]; rfl
 | n+1,a,q+1,h=>by rw[SB,List.getElem?_cons_succ,bX m n (a+1) q (by omega),show a+1+q=a+(q+1) from by omega]
def Ya (m:HM):Nat→Nat→Bool
 | _,0=>false
 | a,n+1=>(Rg m a).isSome || Ya m (a+1) n
theorem gx:∀ (n a:Nat),Ya m a n=true ↔ ∃ q,a≤q∧q<a+n∧(Rg m q).isSome=true
 | 0,a=>by simp[Ya]; intro q h1 h2; omega
 | n+1,a=>by
   rw[Ya,Bool.or_eq_true,gx n (a+1)]
   constructor
   ·rintro (h | ⟨q,h1,h2,h3⟩)
    ·exact ⟨a,Nat.le_refl _,by omega,h⟩
    ·exact ⟨q,by omega,by omega,h3⟩
   ·rintro ⟨q,h1,h2,h3⟩
    rcases Nat.eq_or_lt_of_le h1 with rfl | h1
    ·exact .inl h3
    ·exact .inr ⟨q,h1,by omega,h3⟩
theorem oE (hI:Inv m) (hI2:Inv2 m) (hw:m.wds.length=64*m.bls.length) {b t:Nat} (hb:b<m.bls.length) (hst:(m.bls.getD b (0,0)).1=1) (ht:t<8):(∃ j ∈ Cf m (32*b) 32,kc m j t)↔Ya m (64*b+8*t) 8=true:=by
 rw[gx]
 constructor
 ·rintro ⟨j,hj,l1,l2⟩
  obtain ⟨a1,a2,a3⟩:=Hj.1 hj
  have hs:Start m j:=⟨by omega,a3⟩
  have hz:=hI.size hs
  obtain ⟨z1,z2⟩:=fp hI hI2 hst hs a1 a2
  have e:2*j % 64=2*j-64*b:=by omega
  rw[e] at l1 l2
  refine ⟨max (2*j) (64*b+8*t),by omega,by omega, ?_⟩
  rw[hI.PN hs (by omega) (by omega)]; rfl
 ·rintro ⟨q,h1,h2,h3⟩
  obtain ⟨j,hj⟩:=Option.isSome_iff_exists.1 h3
  obtain ⟨s1,_,s3,s4⟩:=Qu hj
  have hq:q/64=b:=by omega
  have hb':=nN hI hI2 s1 s4 s3 (by rw[hq]; exact hst)
  have hz:=hI.size s1
  refine ⟨j,Hj.2 ⟨by omega,by omega,s1.2⟩, ?_, ?_⟩
  ·have e:2*j % 64=2*j-64*b:=by omega
   rw[e]; omega
  ·have e:2*j % 64=2*j-64*b:=by omega
   rw[e]; omega
end Go.Proofs.YtlaplcglpnlieaaGreat
end
section
namespace Go.Proofs.YtlaplcglpnlieaaGreat
open Go Go.AX
noncomputable local instance vf:AF:=Au
local instance tU:Kn:=⟨true⟩
variable {σ:Aa} {i:Cs} {m:HM}
def AL:List (Nat × Nat)→List Value
 | []=>[]
 | r::l=>.int .i64 (r.1:Int) :: .int .i64 (r.2:Int)::AL l
theorem KG:∀ l,(AL l).length=l.length*2
 | []=>rfl
 | r::l=>by simp[AL,KG l,Nat.add_mul]
theorem Jv:∀ l l',AL (l++l')=AL l++AL l'
 | [],l'=>rfl
 | r::l,l'=>by simp[AL,Jv l l']
theorem WI:∀ (l:List (Nat × Nat)) (x:Nat),x<l.length→(AL l)[x*2]?=some (.int .i64 ((l.getD x (0,0)).1:Int))∧(AL l)[x*2+1]?=some (.int .i64 ((l.getD x (0,0)).2:Int))
 | [],x,h=>by simp at h
 | r::l,0,h=>by simp[AL]
 | r::l,x+1,h=>by
   have ih:=WI l x (by simpa using h)
   rw[show (x+1)*2=x*2+1+1 from by omega]
   simpa [AL,List.getElem?_cons_succ] using ih
def Ip (a e:Nat):List (Nat × Nat):=if a<e then [(a,e-a)] else []
def Eb (m:HM):List Nat→Nat→List (Nat × Nat) × Nat
 | [],a=>([],a)
 | j::L,a=>(Ip a (2*j)++(Eb m L (2*j+sz m j)).1,(Eb m L (2*j+sz m j)).2)
def YW (m:HM) (b:Nat):List (Nat × Nat):=(Eb m (Cf m (32*b) 32) (64*b)).1++Ip (Eb m (Cf m (32*b) 32) (64*b)).2 (64*b+64)
def dy (m:HM) (b:Nat):List (Nat × Nat):=if 1≤b∧(m.bls.getD b (0,0)).1=1 then YW m b else []
theorem cq:IW P Af=some 2:=by kernel_rfl
theorem au:bytesOf P Af=some 16:=by kernel_rfl
theorem c9:GL P Af=some (.agg #[.int .i64 0,.int .i64 0]):=by kernel_rfl
structure WW (lo h5 h3:Nat) (σ:Aa) (a:Nat) (o:E8) (R:List (Nat × Nat)):Prop where
 at_:σ[h5]?=some (.cells [.int .i64 (a:Int)] B9 true)
 out:σ[h3]?=some (.cells [.slice o.1 o.2.1 o.2.2] T4 true)
 sl:BQ Af 2 σ o R.length (AL R)
 new:∀ a,o.1=some a→lo≤a.block
 l5:h5<lo
 l3:h3<lo
 ne:h5≠h3
 ll:lo≤σ.length
theorem WW.CT {lo h5 h3 a:Nat} {σ σ':Aa} {o:E8} {R:List (Nat × Nat)} (h:WW lo h5 h3 σ a o R) (hs:∀ q,q<σ.length→σ'[q]?=σ[q]?) (hl:σ.length≤σ'.length):WW lo h5 h3 σ' a o R:=
 ⟨(hs _ (Ae h.at_)).trans h.at_,(hs _ (Ae h.out)).trans h.out,h.sl.CT fun a ha=>hs _ (h.sl.lt a ha),h.new,h.l5,h.l3,h.ne,Nat.le_trans h.ll hl⟩
theorem oa (k:Nat) {lo h5 h3 a x:Nat} {o:E8} {R:List (Nat × Nat)} (h:WW lo h5 h3 σ a o R) (hR:R.length≤5000) (ha:a≤5000) (hx:x≤5000):
  ∃ σ' o',C6 (k+1) (x:Int) (some ⟨h5,0,none⟩) (some ⟨h3,0,none⟩) σ=some (.tuple #[],σ')∧WW lo h5 h3 σ' a o' (R++Ip a x)∧(∀ q,q<lo→q≠h3→σ'[q]?=σ[q]?)∧σ.length≤σ'.length:=by
 have lA:Ai .i64 σ h5 0=some (a:Int):=by simp[Ai,Gy,h.at_,BA]
 have lO:Ew σ h3 0=some (o.1,o.2.1,o.2.2):=by simp[Ew,Gy,h.out,H7]
 by_cases hc:a<x
 ·obtain ⟨o1,σ1,e1,g1,s1⟩:=bJ cq au c9 rfl rfl (by decide) (by decide) (by decide) σ o R.length (AL R) 1 1 (AL [(a,x-a)]) Af (by omega) (by decide) rfl h.sl
  have e1':Bv P Af (o.1,o.2.1,o.2.2) (some ⟨σ.length,0,none⟩,1,1) (σ++[Bi.cells [.int .i64 (a:Int),.int .i64 ((x-a:Nat):Int)] Af true])=some (o1,σ1):=e1
  have hnO:∀ q,q<lo → ∀ a',o.1=some a'→a'.block≠q:=fun q hq a' ha'=>by have:=h.new a' ha'; omega
  have k3:=(g1.same h3 (Ae h.out) (hnO h3 h.l3)).trans h.out
  have k5:=(g1.same h5 (Ae h.at_) (hnO h5 h.l5)).trans h.at_
  obtain ⟨σ2,hσ2⟩:∃ σ2,σ1.set h3 (.cells [.slice o1.1 o1.2.1 o1.2.2] T4 true)=σ2:=⟨_,rfl⟩
  have est:G0 σ1 h3 0 (.slice o1.1 o1.2.1 o1.2.2)=some σ2:=by
   rw[← hσ2]; simp[G0,k3]
  have same2:∀ q,q≠h3→σ2[q]?=σ1[q]?:=fun q hq=>by rw[← hσ2,List.getElem?_set_ne (Ne.symm hq)]
  have hll:=h.ll
  have hn1:∀ a',o1.1=some a'→lo≤a'.block:=by
   intro a' ha'
   rcases g1.new with e | e
   ·rw[e] at ha'; exact h.new a' ha'
   ·have:=e a' ha'; omega
  refine ⟨σ2,o1, ?_,⟨(same2 _ h.ne).trans k5,by rw[← hσ2,List.getElem?_set_self (Ae k3)], ?_,hn1,h.l5,h.l3,h.ne, ?_⟩, ?_, ?_⟩
  ·rw[Jk,Iq]
   have q:decide ((x:Int)>(a:Int))=true:=decide_eq_true (by omega)
   have w:Ac ((x:Int)-(a:Int))=((x-a:Nat):Int):=by rw[Ad (by unfold AW; omega)]; omega
   simp only[Option.bind_some,lA,q,cond_true,lO,Ap,w,e1',est,if_true]
  ·unfold Ip
   rw[if_pos hc,Jv,List.length_append]
   exact s1.CT fun a' ha'=>same2 _ (fun e=>by have:=hn1 a' ha'; have:=h.l3; omega)
  ·rw[← hσ2]; have:=g1.len; simp; omega
  ·intro q hq hne
   rw[same2 q hne,g1.same q (by omega) (hnO q hq)]
  ·rw[← hσ2]; have:=g1.len; simp; omega
 ·refine ⟨σ,o, ?_, ?_,fun _ _ _=>rfl,Nat.le_refl _⟩
  ·rw[Jk,Iq]
   have q:decide ((x:Int)>(a:Int))=false:=decide_eq_false (by omega)
   simp only[Option.bind_some,lA,q,cond_false,if_true]
  ·unfold Ip
   rw[if_neg hc,List.append_nil]
   exact h
theorem ZS (k:Nat) (L:List Nat) (hL:∀ j ∈ L,Start m j) (hLl:L.length≤2048) (hwl:∀ j ∈ L,2*j+sz m j≤5000) {lo h5 h3 lo':Nat} (s:E8) (hs3:∀ a,s.1=some a→a.block<lo∧a.block≠h3∧a.block≠h5) (hi:∀ j ∈ i.l,j<lo∧j≠h3∧j≠h5):∀ (n x f:Nat) (σ:Aa) (a:Nat) (o:E8) (R:List (Nat × Nat)),Ah σ i m→WW lo h5 h3 σ a o R→Du lo' σ s (EE L)→R.length≤x→a≤5000→x+n=L.length→n<f →
  ∃ σ' o',CX (k+3) f (DW i) h5 h3 s.1 s.2.1 s.2.2 (L.length:Int) (x:Int) σ=some (.exit 0,[],σ')∧Ah σ' i m∧WW lo h5 h3 σ' (Eb m (L.drop x) a).2 o' (R++(Eb m (L.drop x) a).1)∧(∀ q,q<lo→q≠h3→q≠h5→σ'[q]?=σ[q]?)∧σ.length≤σ'.length∧(Eb m (L.drop x) a).2≤5000∧(R++(Eb m (L.drop x) a).1).length≤L.length
 | 0,x,0,σ,a,o,R,h,hg,hs,hr,ha,hx,hf=>by omega
 | 0,x,f+1,σ,a,o,R,h,hg,hs,hr,ha,hx,hf=>by
   rw[Jl,Ir,List.drop_eq_nil_of_le (by omega)]
   have q:decide ((x:Int)<(L.length:Int))=false:=decide_eq_false (by omega)
   exact ⟨σ,o,by simp only[q,cond_false],h,by simpa [Eb] using hg,fun _ _ _ _=>rfl,Nat.le_refl _,ha,by simp[Eb]; omega⟩
 | n+1,x,0,σ,a,o,R,h,hg,hs,hr,ha,hx,hf=>by omega
 | n+1,x,f+1,σ,a,o,R,h,hg,hs,hr,ha,hx,hf=>by
   have al:(EE L).length=L.length:=by simp[EE]
   have hxl:x<L.length:=by omega
   have hst:=hL _ (List.getElem_mem hxl)
   have hle:=hwl _ (List.getElem_mem hxl)
   have hnt:=h.nt
   have hsj:=hst.1
   obtain ⟨b1,e1,hb1,c1,ldA⟩:=ints_at hs (x:=x) (by omega)
   subst e1
   rw[SM L hxl] at ldA
   obtain ⟨n1,n2,n3⟩:=hs3 _ rfl
   simp only at n1 n2 n3
   obtain ⟨σ1,o1,eG,g1,same1,len1⟩:=oa (k+2) hg (x:=2*L[x]) (by omega) ha (by omega)
   have eG':C6 (k+3) ((2*L[x]:Nat):Int) (some ⟨h5,0,none⟩) (some ⟨h3,0,none⟩) σ=_:=eG
   have h1:Ah σ1 i m:=h.CT fun j hj=>same1 j (hi j hj).1 (hi j hj).2.1
   obtain ⟨τ2,e2⟩:=ZM k h1 hsj
   have g2:=g1.CT (σ':=σ1++τ2) (fun q hq=>List.getElem?_append_left hq) (by simp)
   obtain ⟨σ3,hσ3⟩:∃ σ3,(σ1++τ2).set h5 (.cells [.int .i64 ((2*L[x]+sz m L[x]:Nat):Int)] B9 true)=σ3:=⟨_,rfl⟩
   have est:G0 (σ1++τ2) h5 0 (.int .i64 ((2*L[x]+sz m L[x]:Nat):Int))=some σ3:=by
    rw[← hσ3]; simp[G0,g2.at_]
   have same3:∀ q,q≠h5→σ3[q]?=(σ1++τ2)[q]?:=fun q hq=>by rw[← hσ3,List.getElem?_set_ne (Ne.symm hq)]
   have hll:=g1.ll
   have l3:σ3.length=σ1.length+τ2.length:=by rw[← hσ3]; simp
   have g3:WW lo h5 h3 σ3 (2*L[x]+sz m L[x]) o1 (R++Ip a (2*L[x])):=⟨by rw[← hσ3,List.getElem?_set_self (Ae g2.at_)],(same3 _ (Ne.symm g2.ne)).trans g2.out,
    g2.sl.CT fun a ha=>same3 _ (fun e=>by have:=g2.new a ha; have:=g2.l5; omega),g2.new,g2.l5,g2.l3,g2.ne,by omega⟩
   have Wc:∀ q,q<lo→q≠h3→q≠h5→σ3[q]?=σ[q]?:=fun q p1 p2 p3=>by
    rw[same3 q p3,List.getElem?_append_left (by omega),same1 q p1 p2]
   have h3':Ah σ3 i m:=h.CT fun j hj=>Wc j (hi j hj).1 (hi j hj).2.1 (hi j hj).2.2
   have s3:Du lo' σ3 (some ⟨b1,0,none⟩,(EE L).length,(EE L).length) (EE L):=.inr ⟨b1,hb1,rfl,fun e=>by rw[e] at al; simp at al; omega,by rw[Wc b1 n1 n2 n3]; exact c1⟩
   have hgl:(Ip a (2*L[x])).length≤1:=by unfold Ip; split <;> simp
   obtain ⟨σ4,o4,e4,h4,g4,same4,len4,m4,m5⟩:=ZS k L hL hLl hwl (some ⟨b1,0,none⟩,(EE L).length,(EE L).length) hs3 hi n (x+1) f σ3 (2*L[x]+sz m L[x]) o1 (R++Ip a (2*L[x])) h3' g3 s3 (by rw[List.length_append]; omega) hle (by omega) (by omega)
   have eT:Eb m (L.drop x) a=(Ip a (2*L[x])++(Eb m (L.drop (x+1)) (2*L[x]+sz m L[x])).1,(Eb m (L.drop (x+1)) (2*L[x]+sz m L[x])).2):=by
    rw[List.drop_eq_getElem_cons hxl]; rfl
   rw[eT]
   rw[List.append_assoc] at g4 m5
   refine ⟨σ4,o4, ?_,h4,g4,fun q p1 p2 p3=>(same4 q p1 p2 p3).trans (Wc q p1 p2 p3),by omega,m4,m5⟩
   rw[Jl,Ir]
   have q:decide ((x:Int)<(L.length:Int))=true:=decide_eq_true (by omega)
   have w1:Ac ((x:Int)+1)=((x+1:Nat):Int):=Ad (by unfold AW; omega)
   have w2:Ac (((2*L[x]:Nat):Int)+(sz m L[x]:Int))=((2*L[x]+sz m L[x]:Nat):Int):=by rw[Ad (by unfold AW; omega)]; omega
   simp only[q,cond_true]
   rw[if_pos (by omega)]
   simp only[Option.bind_some,Nat.zero_add,Int.toNat_natCast,Nat.mul_one,ldA,eG',Ju,e2,Am,w2,est,w1]
   exact e4
theorem pE (k:Nat) (hk:5000≤k) (h:Ah σ i m) (hI:Inv m) {b:Nat} (hb:b<m.bls.length):
  ∃ τ s,DK (k+7) (DW i) (b:Int) σ=some (.slice s.1 s.2.1 s.2.2,σ++τ)∧BQ Af 2 (σ++τ) s (dy m b).length (AL (dy m b))∧(dy m b).length≤33 ∧ ∀ a,s.1=some a→σ.length≤a.block:=by
 have hu:Ca (k+6) (DW i) (b:Int) σ=_:=gj (k+3) h hb
 unfold dy
 by_cases hc:1≤b∧(m.bls.getD b (0,0)).1=1
 rotate_left
 ·rw[if_neg hc]
  refine ⟨[],(none,0,0), ?_,BQ.nil _ _ _,by simp,by intro a ha; cases ha⟩
  rw[Iv,IA]
  simp only[hu,Option.bind_some,As,decide_eq_false hc,Bool.not_false,cond_true,List.append_nil]
 rw[if_pos hc]
 have hnt:=h.nt
 have hwl:=h.wl
 obtain ⟨σ1,hσ1⟩:∃ σ1,σ++[Bi.cells [.slice none 0 0] T4 true]=σ1:=⟨_,rfl⟩
 have l1:σ1.length=σ.length+1:=by rw[← hσ1]; simp
 obtain ⟨σ2,hσ2⟩:∃ σ2,σ1++[Bi.cells [.int .i64 ((64*b:Nat):Int)] B9 true]=σ2:=⟨_,rfl⟩
 have est:G0 (σ1++[Bi.cells [.int .i64 0] B9 true]) σ1.length 0 (.int .i64 ((64*b:Nat):Int))=some σ2:=by
  rw[← hσ2]; simp[G0]
 have l2:σ2.length=σ.length+2:=by rw[← hσ2]; simp; omega
 have h2:Ah σ2 i m:=hσ2 ▸ (hσ1 ▸ h.app _:Ah σ1 i m).app _
 obtain ⟨τ3,s,e3,i3⟩:=Wk k hk h2 hb
 have hL:∀ j ∈ Cf m (32*b) 32,Start m j:=by
  intro j hj
  obtain ⟨a,b',c⟩:=Hj.1 hj
  exact ⟨by omega,c⟩
 have hLl:=Oz m (32*b) 32
 have hlt:=h.lt
 have g0:WW (σ2++τ3).length σ1.length σ.length (σ2++τ3) (64*b) (none,0,0) []:=by
  refine { at_:=?_,out:=?_,sl:=BQ.nil _ _ _,new:=(by intro a ha; cases ha),l5:=(by simp; omega),l3:=(by simp; omega),ne:=(by omega),ll:=Nat.le_refl _ }
  ·rw[List.getElem?_append_left (by omega),← hσ2]; simp
  ·rw[List.getElem?_append_left (by omega),← hσ2,List.getElem?_append_left (by omega),← hσ1]; simp
 obtain ⟨σ4,o4,e4,h4,g4,same4,len4,m4,m5⟩:=ZS (k+3) _ hL (by omega) (fun j hj=>by have:=hI.fit j (hL j hj); omega) s (fun a ha=>by have:=i3.ge a ha; simp only[List.length_append] at *; omega) (fun j hj=>by have:=hlt j hj; simp; omega)
  (Cf m (32*b) 32).length 0 (k+6) (σ2++τ3) (64*b) (none,0,0) [] (h2.app τ3) g0 i3 (Nat.zero_le _) (by omega) (by omega) (by omega)
 rw[List.drop_zero,List.nil_append] at g4 m5
 rw[List.drop_zero] at m4
 obtain ⟨σ5,o5,e5,g5,same5,len5⟩:=oa (k+5) g4 (x:=64*b+64) (by omega) (by omega) (by omega)
 have hll:=g5.ll
 have hle:σ.length≤σ5.length:=by simp at hll; omega
 have eσ:σ5=σ++σ5.drop σ.length:=by
  apply List.ext_getElem?
  intro q
  by_cases hq:q<σ.length
  ·rw[List.getElem?_append_left hq,same5 q (by simp; omega) (by omega),same4 q (by simp; omega) (by omega) (by omega),List.getElem?_append_left (by omega),← hσ2,List.getElem?_append_left (by omega),← hσ1,List.getElem?_append_left hq]
  ·rw[List.getElem?_append_right (by omega),List.getElem?_drop,show σ.length+(q-σ.length)=q from by omega]
 refine ⟨σ5.drop σ.length,o5, ?_,by rw[← eσ]; exact g5.sl, ?_,fun a ha=>by have:=g5.new a ha; simp at this; omega⟩
 ·have hl:=i3.len
  rw[show (EE (Cf m (32*b) 32)).length=(Cf m (32*b) 32).length from by simp[EE]] at hl
  rw[← eσ,Iv,IA]
  have w1:Ac ((b:Int)*64)=((64*b:Nat):Int):=by rw[Ad (by unfold AW; omega)]; omega
  have w2:Ac ((b:Int)+1)=((b+1:Nat):Int):=by rw[Ad (by unfold AW; omega)]; omega
  have w3:Ac (((b+1:Nat):Int)*64)=((64*b+64:Nat):Int):=by rw[Ad (by unfold AW; omega)]; omega
  have lO:Ew σ5 σ.length 0=some (o5.1,o5.2.1,o5.2.2):=by simp[Ew,Gy,g5.out,H7]
  have e4':CX (k+6) (k+6) (DW i) σ1.length σ.length s.1 (Cf m (32*b) 32).length s.2.2 (((Cf m (32*b) 32).length:Nat):Int) 0 (σ2++τ3)=some (.exit 0,[],σ4):=by rw[hl] at e4; exact e4
  simp only[hu,Option.bind_some,As,decide_eq_true hc,Bool.not_true,cond_false,Ap,hσ1,w1,est,e3,H7,hl,e4',if_true,w2,w3,e5,Ju,lO]
 ·unfold YW
  rw[List.length_append]
  have:(Ip (Eb m (Cf m (32*b) 32) (64*b)).2 (64*b+64)).length≤1:=by unfold Ip; split <;> simp
  omega
end Go.Proofs.YtlaplcglpnlieaaGreat
end
section
namespace Go.Proofs.YtlaplcglpnlieaaGreat
open Go Go.AX
variable {m:HM}
structure RO where
 addr:Int
 id:Int
 r:Int
 d:Int
 k:Int
 refs:List Int
 data:List Int
 pin:Bool
structure RM where
 bl:List (Int × Int)
 ob:List RO
 fw:List (Int × Int)
 born:Int
def RO.w (o:RO):Int:=words o.r o.d o.k
def D5 (m:HM) (j:Nat):RO:=⟨((2*j:Nat):Int),m.wds.getD (2*j) 0,BV m j,E5 m j,Hh m j,QC m (2*j+2) (BV m j).toNat,QC m (2*j+2+(BV m j).toNat) (E5 m j).toNat,decide (Ge 1 m.pnw j=1)⟩
def D7 (m:HM):List Nat:=Cf m 0 (32*m.bls.length)
def KE (m:HM):List RO:=(D7 m).map (D5 m)
structure RU (m:HM) (t:RM):Prop where
 bl:t.bl=m.bls
 ob:t.ob=KE m
 born:t.born=m.births
 fw:∀ a,getM t.fw a=getM m.fw a
 fl:t.fw.length=m.fw.length
 o1:TO t.fw
 o2:TO m.fw
theorem WM:∀ {l l':List Nat},l.Pairwise (·<·)→l'.Pairwise (·<·)→(∀ a,a ∈ l↔a ∈ l')→l=l'
 | [],[],_,_,_=>rfl
 | [],b::l',_,_,h=>by have:=(h b).2 List.mem_cons_self; cases this
 | a::l,[],_,_,h=>by have:=(h a).1 List.mem_cons_self; cases this
 | a::l,b::l',h1,h2,h=>by
   have p1:=List.pairwise_cons.1 h1
   have p2:=List.pairwise_cons.1 h2
   have hab:a=b:=by
    rcases List.mem_cons.1 ((h a).1 List.mem_cons_self) with e | e
    ·exact e
    ·rcases List.mem_cons.1 ((h b).2 List.mem_cons_self) with e' | e'
     ·exact e'.symm
     ·have:=p1.1 b e'; have:=p2.1 a e; omega
   subst hab
   congr 1
   refine WM p1.2 p2.2 fun x=>⟨fun hx=>?_,fun hx=>?_⟩
   ·rcases List.mem_cons.1 ((h x).1 (List.mem_cons_of_mem _ hx)) with e | e
    ·subst e; have:=p1.1 x hx; omega
    ·exact e
   ·rcases List.mem_cons.1 ((h x).2 (List.mem_cons_of_mem _ hx)) with e | e
    ·subst e; have:=p2.1 x hx; omega
    ·exact e
theorem OB (m:HM):(D7 m).Pairwise (·<·):=(List.pairwise_lt_range' (step:=1) (by decide)).filter _
theorem Es {j:Nat}:j ∈ D7 m↔Start m j:=qh
theorem fM {m':HM} {l:List Nat} (hs:l.Pairwise (·<·)) (hm:∀ j,j ∈ l↔Start m' j):KE m'=l.map (D5 m'):=by
 unfold KE
 rw[WM (OB m') hs (fun a=>by rw[Es,hm])]
def QR:List RO→Int→Option Nat
 | [],_=>none
 | o::l,a=>if o.addr=a then some 0 else (QR l a).map (·+1)
theorem iw (f:Nat→RO) (hf:∀ j,(f j).addr=((2*j:Nat):Int)):∀ (L:List Nat) (a:Int),(∀ x,QR (L.map f) a=some x→x<L.length ∧ ∀ h:x<L.length,a=((2*L[x]:Nat):Int))∧(QR (L.map f) a=none → ∀ j ∈ L,a≠((2*j:Nat):Int))
 | [],a=>⟨fun x h=>(by cases h),fun _ j hj=>(by cases hj)⟩
 | j::L,a=>by
   obtain ⟨h1,h2⟩:=iw f hf L a
   simp only[List.map_cons,QR,hf]
   constructor
   ·intro x hx
    split at hx
    ·rename_i e
     cases hx
     exact ⟨by simp,fun _=>e.symm⟩
    ·cases hq:QR (L.map f) a with
     | none=>rw[hq] at hx; cases hx
     | some y=>
       rw[hq] at hx; cases hx
       obtain ⟨q1,q2⟩:=h1 y hq
       exact ⟨by simpa using q1,fun h=>by simpa using q2 q1⟩
   ·intro hx
    split at hx
    ·cases hx
    ·rename_i e
     cases hq:QR (L.map f) a with
     | none=>
       intro j' hj' e'
       rcases List.mem_cons.1 hj' with rfl | hj'
       ·exact e e'.symm
       ·exact h2 hq j' hj' e'
     | some y=>rw[hq] at hx; cases hx
theorem IM (m:HM) (j:Nat):(D5 m j).addr=((2*j:Nat):Int):=rfl
theorem RU.idx {t:RM} (h:RU m t) (a:Int):(∀ x,QR t.ob a=some x→x<t.ob.length ∧ ∃ j,Start m j∧a=((2*j:Nat):Int)∧Qw m a=true∧(D7 m)[x]?=some j∧t.ob[x]?=some (D5 m j))∧(QR t.ob a=none→Qw m a=false):=by
 obtain ⟨h1,h2⟩:=iw (D5 m) (IM m) (D7 m) a
 rw[h.ob]
 constructor
 ·intro x hx
  obtain ⟨q1,q2⟩:=h1 x hx
  have hs:Start m (D7 m)[x]:=Es.1 (List.getElem_mem q1)
  refine ⟨by simpa [KE] using q1,(D7 m)[x],hs,q2 q1,by rw[q2 q1]; exact pY hs,List.getElem?_eq_getElem q1, ?_⟩
  unfold KE
  rw[List.getElem?_map,List.getElem?_eq_getElem q1]; rfl
 ·intro hx
  cases hq:Qw m a with
  | false=>rfl
  | true=>
    obtain ⟨j,e,hs⟩:=Ss hq
    exact absurd e (h2 hx j (Es.2 hs))
theorem RU.has {t:RM} (h:RU m t) (a:Int):(QR t.ob a).isSome=Qw m a:=by
 obtain ⟨h1,h2⟩:=h.idx a
 cases hq:QR t.ob a with
 | none=>rw[h2 hq]; rfl
 | some x=>obtain ⟨_,j,_,_,e,_⟩:=h1 x hq; rw[e]; rfl
def TL:List RO→Int→Option RO
 | [],_=>none
 | o::l,a=>if o.addr≤a∧a<o.addr+o.w then some o else TL l a
theorem bR (hI:Inv m) {j:Nat} (hs:Start m j):(D5 m j).w=(sz m j:Int):=(jh hI hs).2.2.2.2.2.2.2
theorem dW (hI:Inv m) (a:Nat):∀ (L:List Nat),(∀ j ∈ L,Start m j)→(TL (L.map (D5 m)) (a:Int)=none → ∀ j ∈ L,¬ (2*j≤a∧a<2*j+sz m j))∧(∀ o,TL (L.map (D5 m)) (a:Int)=some o → ∃ j ∈ L,o=D5 m j∧2*j≤a∧a<2*j+sz m j)
 | [],_=>⟨fun _ j hj=>(by cases hj),fun o h=>(by cases h)⟩
 | j::L,hL=>by
   obtain ⟨h1,h2⟩:=dW hI a L fun j hj=>hL j (List.mem_cons_of_mem _ hj)
   simp only[List.map_cons,TL,IM,bR hI (hL j List.mem_cons_self)]
   constructor
   ·intro hx
    split at hx
    ·cases hx
    ·rename_i e
     intro j' hj'
     rcases List.mem_cons.1 hj' with rfl | hj'
     ·rintro ⟨q1,q2⟩; exact e ⟨by omega,by omega⟩
     ·exact h1 hx j' hj'
   ·intro o hx
    split at hx
    ·rename_i e
     cases hx
     exact ⟨j,List.mem_cons_self,rfl,by omega,by omega⟩
    ·obtain ⟨j',q1,q2⟩:=h2 o hx
     exact ⟨j',List.mem_cons_of_mem _ q1,q2⟩
theorem dX:∀ (l:List RO) (a:Int),(∀ o ∈ l,0≤o.addr)→a<0→TL l a=none
 | [],_,_,_=>rfl
 | o::l,a,h,ha=>by
   have:=h o List.mem_cons_self
   rw[TL,if_neg (by omega),dX l a (fun o ho=>h o (List.mem_cons_of_mem _ ho)) ha]
theorem RU.find {t:RM} (h:RU m t) (hI:Inv m) (a:Int):TL t.ob a=(MH m a).map (D5 m):=by
 rw[h.ob]
 unfold MH
 by_cases h0:a<0
 ·rw[if_neg (by omega),dX _ _ (fun o ho=>by
   obtain ⟨j,_,rfl⟩:=List.mem_map.1 ho
   rw[IM]; omega) h0]; rfl
 obtain ⟨n,rfl⟩:∃ n:Nat,a=(n:Int):=⟨a.toNat,by omega⟩
 obtain ⟨h1,h2⟩:=dW hI n (D7 m) (fun j hj=>Es.1 hj)
 have hr:KE m=(D7 m).map (D5 m):=rfl
 rw[hr]
 by_cases hn:(n:Int)<(m.wds.length:Int)
 ·rw[if_pos ⟨by omega,hn⟩,Int.toNat_natCast]
  cases hq:TL ((D7 m).map (D5 m)) (n:Int) with
  | none=>
    cases hf:Rg m n with
    | none=>rfl
    | some j=>
      obtain ⟨s1,_,s3,s4⟩:=Qu hf
      exact absurd ⟨s4,s3⟩ (h1 hq j (Es.2 s1))
  | some o=>
    obtain ⟨j,hj,rfl,q1,q2⟩:=h2 o hq
    rw[hI.PN (Es.1 hj) q1 q2]; rfl
 ·rw[if_neg (by omega)]
  cases hq:TL ((D7 m).map (D5 m)) (n:Int) with
  | none=>rfl
  | some o=>
    obtain ⟨j,hj,rfl,q1,q2⟩:=h2 o hq
    have:=hI.fit j (Es.1 hj)
    omega
def se:List RO→Int→Option Int
 | [],_=>none
 | o::l,n=>if o.id=n then some o.addr else se l n
theorem lC (n:Int):∀ (L:List Nat),(se (L.map (D5 m)) n=none → ∀ j ∈ L,m.wds.getD (2*j) 0≠n)∧(∀ a,se (L.map (D5 m)) n=some a → ∃ j ∈ L,a=((2*j:Nat):Int)∧m.wds.getD (2*j) 0=n)
 | []=>⟨fun _ j hj=>(by cases hj),fun a h=>(by cases h)⟩
 | j::L=>by
   obtain ⟨h1,h2⟩:=lC n L
   simp only[List.map_cons,se,IM]
   have e0:(D5 m j).id=m.wds.getD (2*j) 0:=rfl
   rw[e0]
   constructor
   ·intro hx
    split at hx
    ·cases hx
    ·rename_i e
     intro j' hj'
     rcases List.mem_cons.1 hj' with rfl | hj'
     ·exact e
     ·exact h1 hx j' hj'
   ·intro a hx
    split at hx
    ·rename_i e
     cases hx
     exact ⟨j,List.mem_cons_self,rfl,e⟩
    ·obtain ⟨j',q1,q2⟩:=h2 a hx
     exact ⟨j',List.mem_cons_of_mem _ q1,q2⟩
theorem RU.at {t:RM} (h:RU m t) (hI:Inv m) (n:Int):se t.ob n=getM m.pl n:=by
 rw[h.ob]
 obtain ⟨h1,h2⟩:=lC (m:=m) n (D7 m)
 have hr:KE m=(D7 m).map (D5 m):=rfl
 rw[hr]
 cases hq:se ((D7 m).map (D5 m)) n with
 | none=>
   cases hg:getM m.pl n with
   | none=>rfl
   | some a=>
     obtain ⟨j,rfl,s1,s2⟩:=hI.plc _ _ hg
     exact absurd s2 (h1 hq j (Es.2 s1))
 | some a=>
   obtain ⟨j,hj,rfl,e⟩:=h2 a hq
   have:=(hI.idn j (Es.1 hj)).2.2
   rw[e] at this
   exact this.symm
def bM (l:List RO) (a w but:Int):Bool:=l.any fun o=>decide (o.id≠but∧o.addr<a+w∧a<o.addr+o.w)
end Go.Proofs.YtlaplcglpnlieaaGreat
end
section
namespace Go.Proofs.YtlaplcglpnlieaaGreat
open Go Go.AX
variable {m:HM} {t:RM}
def NS (m:HM):Prop:=∀ j,j<32*m.bls.length→¬ Start m j→Ge 1 m.pnw j=0
theorem bQ (hI:Inv m) {m':HM} {j j':Nat} (hs:Start m j) (hw:∀ c,c<sz m j→m'.wds.getD (2*j'+c) 0=m.wds.getD (2*j+c) 0) (hp:Ge 1 m'.pnw j'=Ge 1 m.pnw j):D5 m' j'={ D5 m j with addr:=((2*j':Nat):Int) }:=by
 have hz:=hI.size hs
 have w1:=hw 1 (by omega)
 obtain ⟨_,_,er,ed⟩:=We (m:=m) (m':=m') (j:=j) (j':=j') w1
 have ek:Hh m' j'=Hh m j:=by unfold Hh; rw[w1]
 have w0:=hw 0 (by omega)
 rw[Nat.add_zero,Nat.add_zero] at w0
 unfold D5
 rw[w0,er,ed,ek,hp,Vv (m:=m) (m':=m') (BV m j).toNat (2*j+2) (2*j'+2) (fun q hq=>by
  have:=hw (2+q) (by omega)
  rw[Nat.add_assoc,Nat.add_assoc]; exact this),Vv (m:=m) (m':=m') (E5 m j).toNat (2*j+2+(BV m j).toNat) (2*j'+2+(BV m j).toNat) (fun q hq=>by
  have:=hw (2+(BV m j).toNat+q) (by omega)
  rw[Nat.add_assoc (2*j'),Nat.add_assoc (2*j'),Nat.add_assoc (2*j),Nat.add_assoc (2*j)]; exact this)]
theorem PQ (hI:Inv m) {m':HM} {j:Nat} (hs:Start m j) (hw:∀ c,c<sz m j→m'.wds.getD (2*j+c) 0=m.wds.getD (2*j+c) 0) (hp:Ge 1 m'.pnw j=Ge 1 m.pnw j):D5 m' j=D5 m j:=bQ hI hs hw hp
def To:List RO→Int→Nat
 | [],_=>0
 | o::l,a=>if o.addr<a then To l a+1 else 0
def UU (l:List RO) (o:RO):List RO:=l.take (To l o.addr)++o::l.drop (To l o.addr)
theorem lE:∀ (l:List RO) (a:Int),To l a≤l.length
 | [],_=>Nat.le_refl _
 | o::l,a=>by
   rw[To]
   split
   ·have:=lE l a; simp; omega
   ·simp
theorem iA (f:Nat→RO) (hf:∀ j,(f j).addr=((2*j:Nat):Int)) (j:Nat):∀ (L:List Nat),L.Pairwise (·<·)→(∀ y ∈ L.take (To (L.map f) ((2*j:Nat):Int)),y<j)∧(∀ y ∈ L.drop (To (L.map f) ((2*j:Nat):Int)),j≤y)
 | [],_=>⟨fun y h=>(by simp at h),fun y h=>(by simp at h)⟩
 | b::L,h=>by
   have p:=List.pairwise_cons.1 h
   obtain ⟨h1,h2⟩:=iA f hf j L p.2
   simp only[List.map_cons,To,hf]
   split
   ·rw[List.take_succ_cons,List.drop_succ_cons]
    refine ⟨fun y hy=>?_,h2⟩
    rcases List.mem_cons.1 hy with rfl | hy
    ·omega
    ·exact h1 y hy
   ·rw[List.take_zero,List.drop_zero]
    refine ⟨fun y hy=>(by cases hy),fun y hy=>?_⟩
    rcases List.mem_cons.1 hy with rfl | hy
    ·omega
    ·have:=p.1 y hy; omega
theorem iy {m':HM} {L:List Nat} {j:Nat} {o:RO} (hs:L.Pairwise (·<·)) (hj:j ∉ L) (hst:∀ y,Start m' y↔y=j∨y ∈ L) (f:Nat→RO) (hf:∀ j,(f j).addr=((2*j:Nat):Int)) (hfL:∀ y ∈ L,D5 m' y=f y) (ho:D5 m' j=o):KE m'=UU (L.map f) o:=by
 have ha:o.addr=((2*j:Nat):Int):=by rw[← ho]; rfl
 obtain ⟨h1,h2⟩:=iA f hf j L hs
 unfold UU
 rw[ha]
 obtain ⟨p,hp⟩:∃ p,To (L.map f) ((2*j:Nat):Int)=p:=⟨_,rfl⟩
 rw[hp] at h1 h2 ⊢
 have hsplit:=List.take_append_drop p L
 have hs':(L.take p++L.drop p).Pairwise (·<·):=by rw[hsplit]; exact hs
 rw[List.pairwise_append] at hs'
 rw[fM (l:=L.take p++j::L.drop p) ?_ ?_,List.map_append,List.map_cons,← List.map_take,← List.map_drop,ho]
 ·congr 1
  ·exact List.map_congr_left fun y hy=>hfL y (List.mem_of_mem_take hy)
  ·congr 1
   exact List.map_congr_left fun y hy=>hfL y (List.mem_of_mem_drop hy)
 ·rw[List.pairwise_append,List.pairwise_cons]
  refine ⟨hs'.1,⟨fun y hy=>?_,hs'.2.1⟩,fun x hx y hy=>?_⟩
  ·have:=h2 y hy
   have:y≠j:=fun e=>hj (e ▸ List.mem_of_mem_drop hy)
   omega
  ·rcases List.mem_cons.1 hy with rfl | hy
   ·exact h1 x hx
   ·exact hs'.2.2 x hx y hy
 ·intro y
  rw[hst y,List.mem_append,List.mem_cons]
  constructor
  ·rintro (h | h | h)
   ·exact .inr (List.mem_of_mem_take h)
   ·exact .inl h
   ·exact .inr (List.mem_of_mem_drop h)
  ·rintro (h | h)
   ·exact .inr (.inl h)
   ·rw[← hsplit,List.mem_append] at h
    rcases h with h | h
    ·exact .inl h
    ·exact .inr (.inr h)
theorem YB {m':HM}:∀ (n a:Nat),(∀ q,q<n→m'.wds.getD (a+q) 0=0)→QC m' a n=List.replicate n 0
 | 0,a,h=>rfl
 | n+1,a,h=>by
   rw[SB,List.replicate_succ,YB n (a+1) (fun q hq=>by have:=h (q+1) (by omega); rw[show a+1+q=a+(q+1) from by omega]; exact this)]
   have:=h 0 (by omega)
   rw[Nat.add_zero] at this
   rw[this]
theorem RU.CT {m':HM} {t':RM} (h:RU m t) (hb:t'.bl=m'.bls) (ho:t'.ob=KE m') (hn:t'.born=m'.births) (hf:t'.fw=t.fw) (hm:m'.fw=m.fw):RU m' t':=
 ⟨hb,ho,hn,by rw[hf,hm]; exact h.fw,by rw[hf,hm]; exact h.fl,by rw[hf]; exact h.o1,by rw[hm]; exact h.o2⟩
theorem Ro (hS:Sh m) {j:Nat} (hj:j<32*m.bls.length) (n:Int) (a:Nat):(Dj m j n).wds.getD a 0=if a=2*j+1 then n else if a=2*j then m.births+1 else m.wds.getD a 0:=by
 have:=hS.wl
 show ((m.wds.set (2*j) (m.births+1)).set (2*j+1) n).getD a 0=_
 rw[CL,CL,List.length_set]
 by_cases h1:a=2*j+1
 ·subst h1; rw[if_pos ⟨rfl,by omega⟩,if_pos rfl]
 ·rw[if_neg (fun h=>h1 h.1.symm),if_neg h1]
  by_cases h2:a=2*j
  ·subst h2; rw[if_pos ⟨rfl,by omega⟩,if_pos rfl]
  ·rw[if_neg (fun h=>h2 h.1.symm),if_neg h2]
theorem RU.place (h:RU m t) (hI:Inv m) (hI2:Inv2 m) (hS:Sh m) (hP:NS m) {j:Nat} {r d k:Int} (hv:valid r d k=true) (hj:j<32*m.bls.length)
  (hap:∀ o,Start m o→2*o+sz m o≤2*j∨2*j+PS (num r d k)≤2*o):RU (Dj m j (num r d k)) { t with born:=t.born+1,ob:=UU t.ob ⟨((2*j:Nat):Int),t.born+1,r,d,k,List.replicate r.toNat 0,List.replicate d.toNat 0,false⟩ }∧NS (Dj m j (num r d k)):=by
 have hsl:=hS.sl
 obtain ⟨p1,p2,p3,_⟩:=MM hv
 have hsz:=O9 hv
 have hv':=hv
 simp[valid] at hv'
 have hnot:¬ Start m j:=by
  intro hs
  have:=hap j hs
  have:=hI.size hs
  rcases this with ⟨_,_⟩
  rw[hsz] at *
  omega
 have hst:∀ y,Start (Dj m j (num r d k)) y↔y=j∨y ∈ D7 m:=fun y=>by rw[Ru hsl hj,Es]
 have key:KE (Dj m j (num r d k))=UU (KE m) ⟨((2*j:Nat):Int),m.births+1,r,d,k,List.replicate r.toNat 0,List.replicate d.toNat 0,false⟩:=by
  refine iy (OB m) (fun hm=>hnot (Es.1 hm)) hst (D5 m) (IM m) (fun y hy=>?_) ?_
  ·have hy:=Es.1 hy
   have hne:y≠j:=fun e=>hnot (e ▸ hy)
   have hz:=hI.size hy
   have:=hap y hy
   refine PQ hI hy (fun c hc=>?_) rfl
   rw[Ro hS hj,if_neg (by rw[hsz] at this; omega),if_neg (by rw[hsz] at this; omega)]
  ·have w0:(Dj m j (num r d k)).wds.getD (2*j) 0=m.births+1:=by rw[Ro hS hj,if_neg (by omega),if_pos rfl]
   have w1:(Dj m j (num r d k)).wds.getD (2*j+1) 0=num r d k:=by rw[Ro hS hj,if_pos rfl]
   have e1:BV (Dj m j (num r d k)) j=r:=by unfold BV; rw[w1,p1]
   have e2:E5 (Dj m j (num r d k)) j=d:=by unfold E5; rw[w1,p2]
   have e3:Hh (Dj m j (num r d k)) j=k:=by unfold Hh; rw[w1,p3]
   have hzero:∀ a,2*j+2≤a→a<2*j+PS (num r d k)→(Dj m j (num r d k)).wds.getD a 0=0:=by
    intro a h1 h2
    rw[Ro hS hj,if_neg (by omega),if_neg (by omega)]
    refine hI2.zero a fun o ho q1 q2=>?_
    have:=hap o ho
    have:=hI.use ho
    omega
   unfold D5
   rw[w0,e1,e2,e3,YB,YB]
   ·have:Ge 1 (Dj m j (num r d k)).pnw j=0:=hP j hj hnot
    rw[this]; rfl
   ·intro q hq; exact hzero _ (by omega) (by rw[hsz]; omega)
   ·intro q hq; exact hzero _ (by omega) (by rw[hsz]; omega)
 refine ⟨h.CT h.bl ?_ ?_ rfl rfl,fun y hy hn=>?_⟩
 ·show UU t.ob _=_
  rw[key,h.ob,h.born]
 ·show t.born+1=m.births+1
  rw[h.born]
 ·exact hP y hy fun hs=>hn ((Ru hsl hj).2 (.inr hs))
theorem dI {α β:Type} (f:α→β):∀ (l:List α) (x:Nat),(l.map f).eraseIdx x=(l.eraseIdx x).map f
 | [],_=>rfl
 | _::_,0=>rfl
 | a::l,x+1=>by simp[List.eraseIdx_cons_succ,dI f l x]
theorem dk {m':HM} {x j:Nat} (hx:(D7 m)[x]?=some j) (hst:∀ y,Start m' y↔y≠j∧Start m y) (hr:∀ y,Start m y→y≠j→D5 m' y=D5 m y):KE m'=(KE m).eraseIdx x∧((D7 m).eraseIdx x).Pairwise (·<·)∧(∀ y,y ∈ (D7 m).eraseIdx x↔y≠j∧Start m y)∧(KE m).eraseIdx x=((D7 m).eraseIdx x).map (D5 m):=by
 obtain ⟨hxl,hxe⟩:=List.getElem?_eq_some_iff.1 hx
 have hs:=(OB m).sublist (List.eraseIdx_sublist (D7 m) x)
 have hnd:(D7 m).Nodup:=XH _ _
 have hm:∀ y,y ∈ (D7 m).eraseIdx x↔y≠j∧Start m y:=by
  intro y
  rw[List.mem_eraseIdx_iff_getElem]
  constructor
  ·rintro ⟨i,hi,hne,rfl⟩
   refine ⟨fun e=>hne ?_,Es.1 (List.getElem_mem _)⟩
   exact (List.getElem_inj hnd).1 (e.trans hxe.symm)
  ·rintro ⟨hne,hy⟩
   obtain ⟨i,hi,rfl⟩:=List.mem_iff_getElem.1 (Es.2 hy)
   exact ⟨i,hi,fun e=>hne (by subst e; exact hxe),rfl⟩
 have he:(KE m).eraseIdx x=((D7 m).eraseIdx x).map (D5 m):=by
  unfold KE; rw[dI]
 refine ⟨?_,hs,hm,he⟩
 rw[fM hs (fun y=>by rw[hm,hst]),he]
 exact List.map_congr_left fun y hy=>hr y ((hm y).1 hy).2 ((hm y).1 hy).1
theorem RU.kill (h:RU m t) (hI:Inv m) (hS:Sh m) (hP:NS m) {x j:Nat} (hs:Start m j) (hx:(D7 m)[x]?=some j):RU (LJ m j) { t with ob:=t.ob.eraseIdx x }∧NS (LJ m j):=by
 have hsl:=hS.sl
 have hpl:=hS.pl
 have hj:=hs.1
 have hst:∀ y,Start (LJ m j) y↔y≠j∧Start m y:=fun y=>QJ hsl hj
 obtain ⟨e1,_⟩:=dk hx hst (fun y hy hne=>PQ hI hy (fun c hc=>W9 hI hs hy hne (by omega) (by omega)) (by
  show Ge 1 (Hm 1 m.pnw j 0) y=_
  rw[Cr (.inl rfl) (by decide) (Ne.symm hne)]))
 refine ⟨h.CT h.bl ?_ h.born rfl rfl,fun y hy hn=>?_⟩
 ·show t.ob.eraseIdx x=_
  rw[e1,h.ob]
 ·show Ge 1 (Hm 1 m.pnw j 0) y=0
  by_cases e:y=j
  ·subst e; rw[F4 (.inl rfl) (by decide) (by omega)]
  ·rw[Cr (.inl rfl) (by decide) (Ne.symm e)]
   exact hP y hy fun hq=>hn ((hst y).2 ⟨e,hq⟩)
theorem TO.getM_none {k:Int}:∀ {l:List (Int × Int)},getM l k=none → ∀ e ∈ l,e.1≠k
 | [],_,e,he=>by cases he
 | a::l,h,e,he=>by
   unfold getM at h
   rw[List.find?_cons] at h
   cases hq:(k == a.1) with
   | true=>rw[hq] at h; cases h
   | false=>
     rw[hq] at h
     rcases List.mem_cons.1 he with rfl | he
     ·exact fun e'=>by rw[e'] at hq; simp at hq
     ·exact TO.getM_none (l:=l) h e he
theorem JA (a k:Int) (b:Int) (l:List (Int × Int)):getM ((a,b)::l) k=if k=a then some b else getM l k:=by
 unfold getM
 rw[List.find?_cons]
 by_cases h:k=a
 ·rw[if_pos h]; simp[h]
 ·rw[if_neg h]
  have:(k == a)=false:=by simpa using h
  simp only[this]
def qm (l:List (Int × Int)) (a b:Int):List (Int × Int):=(l.filter fun e=>e.1 != a)++[(a,b)]
theorem hJ (l l':List (Int × Int)) (k:Int):getM (l++l') k=(getM l k).or (getM l' k):=by
 induction l with
 | nil=>simp[getM]
 | cons e l ih=>
   obtain ⟨x,y⟩:=e
   rw[List.cons_append,JA,JA,ih]
   split <;> simp
theorem UE (a k:Int):∀ l:List (Int × Int),getM (l.filter fun e=>e.1 != a) k=if k=a then none else getM l k
 | []=>by simp[getM]
 | (x,y)::l=>by
   rw[List.filter_cons]
   have ih:=UE a k l
   by_cases h:x=a
   ·subst h
    simp only[bne_self_eq_false,Bool.false_eq_true,if_false]
    rw[ih,JA]
    by_cases hk:k=x
    ·rw[if_pos hk,if_pos hk]
    ·rw[if_neg hk,if_neg hk,if_neg hk]
   ·have:(x != a)=true:=bne_iff_ne.2 h
    simp only[this,if_true]
    rw[JA,ih,JA]
    by_cases hk:k=x
    ·rw[if_pos hk,if_pos hk,if_neg (by omega)]
    ·rw[if_neg hk,if_neg hk]
theorem UQ (p:Int × Int→Bool):∀ l,TO l→TO (l.filter p)
 | [],_=>trivial
 | e::l,h=>by
   rw[List.filter_cons]
   split
   ·refine ⟨?_,UQ p l h.2⟩
    have h1:=h.1
    cases hq:getM (l.filter p) e.1 with
    | none=>rfl
    | some v=>
      unfold getM at hq
      cases hf:(l.filter p).find? (fun e'=>e.1 == e'.1) with
      | none=>rw[hf] at hq; cases hq
      | some e'=>
        have hm:=List.mem_of_find?_eq_some hf
        have he:=List.find?_some hf
        have:=TO.getM_none h1 e' (List.mem_filter.1 hm).1
        simp at he
        exact absurd he.symm this
   ·exact UQ p l h.2
theorem aL (a:Int):∀ l:List (Int × Int),TO l→(l.filter fun e=>e.1 != a).length+(if (getM l a).isSome then 1 else 0)=l.length
 | [],_=>by simp[getM]
 | (x,y)::l,h=>by
   have ih:=aL a l h.2
   rw[List.filter_cons,JA]
   by_cases he:x=a
   ·subst he
    have h1:getM l x=none:=h.1
    rw[h1] at ih
    simp at ih ⊢
    exact ih
   ·have:(x != a)=true:=bne_iff_ne.2 he
    simp only[this,if_true]
    rw[if_neg (Ne.symm he)]
    simp only[List.length_cons]
    omega
theorem bY (a b:Int):∀ l:List (Int × Int),(QD a b l).length=if (getM l a).isSome then l.length else l.length+1
 | []=>by simp[QD,getM]
 | (x,y)::l=>by
   have ih:=bY a b l
   rw[QD,JA]
   by_cases he:a=x
   ·subst he; simp
   ·have:(a == (x,y).1)=false:=by simpa using he
    simp only[this,Bool.false_eq_true,if_false,if_neg he,List.length_cons,ih]
    split <;> rfl
theorem dO (a b:Int):∀ l:List (Int × Int),TO l→getM l a=none→TO (l++[(a,b)])
 | [],_,_=>⟨rfl,trivial⟩
 | (x,y)::l,h,hn=>by
   rw[JA] at hn
   have hne:a≠x:=fun e=>by rw[if_pos e] at hn; cases hn
   rw[if_neg hne] at hn
   refine ⟨?_,dO a b l h.2 hn⟩
   show getM (l++[(a,b)]) x=none
   rw[hJ,show getM l x=none from h.1,JA,if_neg (Ne.symm hne)]; rfl
theorem RU.fwd {m':HM} {t':RM} (h:RU m t) (a b:Int) (hb:t'.bl=m'.bls) (ho:t'.ob=KE m') (hn:t'.born=m'.births) (hf:t'.fw=qm t.fw a b) (hm:m'.fw=QD a b m.fw):RU m' t':=by
 have hno:getM (t.fw.filter fun e=>e.1 != a) a=none:=by rw[UE,if_pos rfl]
 refine ⟨hb,ho,hn,fun k=>?_, ?_, ?_,by rw[hm]; exact UR _ _ _ h.o2⟩
 ·rw[hf,hm,Qv]
  unfold qm
  rw[hJ,UE,JA]
  by_cases hk:k=a
  ·rw[if_pos hk,if_pos hk,if_pos hk]; rfl
  ·rw[if_neg hk,if_neg hk,if_neg hk,← h.fw k]
   cases getM t.fw k <;> rfl
 ·rw[hf,hm,bY]
  unfold qm
  have h1:=aL a t.fw h.o1
  rw[h.fw a] at h1
  have h2:=h.fl
  rw[List.length_append]
  simp only[List.length_cons,List.length_nil]
  cases hq:(getM m.fw a).isSome with
  | true=>rw[hq] at h1; simp only[if_true] at h1 ⊢; omega
  | false=>rw[hq] at h1; simp only[Bool.false_eq_true,if_false] at h1 ⊢; omega
 ·rw[hf]
  exact dO _ _ _ (UQ _ _ h.o1) hno
theorem RU.move (h:RU m t) (hI:Inv m) (hS:Sh m) (hP:NS m) {x j u:Nat} (hs:Start m j) (hx:(D7 m)[x]?=some j) (hu:u<32*m.bls.length) (hfit:2*u+sz m j≤m.wds.length)
  (hap:∀ o,Start m o→o≠j→2*o+sz m o≤2*u∨2*u+sz m j≤2*o):RU (Q4 m j u) { t with ob:=UU (t.ob.eraseIdx x) { D5 m j with addr:=((2*u:Nat):Int) },fw:=qm t.fw ((2*j:Nat):Int) ((2*u:Nat):Int) }∧NS (Q4 m j u):=by
 have hsl:=hS.sl
 have hpl:=hS.pl
 have hz:=hI.size hs
 have tl:=qC 1 m.pnw j
 have hst:=fun y=>ck (m:=m) hS (j:=j) (t:=u) (j':=y) hs.1 hu
 have hno:∀ o,Start m o→o≠j→o≠u:=by
  rintro o ho e rfl
  have:=hap o ho e
  have:=hI.size ho
  omega
 obtain ⟨_,e2,e3,e4⟩:=dk (m':=LJ m j) hx (fun y=>QJ hsl hs.1) (fun y hy hne=>PQ hI hy (fun c hc=>W9 hI hs hy hne (by omega) (by omega)) (by
  show Ge 1 (Hm 1 m.pnw j 0) y=_
  rw[Cr (.inl rfl) (by decide) (Ne.symm hne)]))
 have key:KE (Q4 m j u)=UU ((KE m).eraseIdx x) { D5 m j with addr:=((2*u:Nat):Int) }:=by
  rw[e4]
  refine iy (j:=u) e2 (fun hm=>?_) (fun y=>?_) (D5 m) (IM m) (fun y hy=>?_) ?_
  ·obtain ⟨q1,q2⟩:=(e3 u).1 hm
   exact hno u q2 q1 rfl
  ·rw[hst,e3]
  ·obtain ⟨q1,q2⟩:=(e3 y).1 hy
   refine PQ hI q2 (fun c hc=>bD hI hs hfit hap q2 q1 (by omega) (by omega)) ?_
   show Ge 1 (Hm 1 (Hm 1 m.pnw j 0) u (Ge 1 m.pnw j)) y=_
   rw[Cr (.inl rfl) tl (Ne.symm (hno y q2 q1)),Cr (.inl rfl) (by decide) (Ne.symm q1)]
  ·refine bQ hI hs (fun c hc=>?_) ?_
   ·rw[Tl hI hs hfit,if_pos (by omega),show 2*j+(2*u+c-2*u)=2*j+c from by omega]
   ·show Ge 1 (Hm 1 (Hm 1 m.pnw j 0) u (Ge 1 m.pnw j)) u=_
    rw[F4 (.inl rfl) tl (by rw[MO]; omega)]
 refine ⟨h.fwd _ _ h.bl ?_ h.born rfl rfl,fun y hy hn=>?_⟩
 ·show UU (t.ob.eraseIdx x) _=_
  rw[key,h.ob]
 ·show Ge 1 (Hm 1 (Hm 1 m.pnw j 0) u (Ge 1 m.pnw j)) y=0
  have hy:y<32*m.bls.length:=hy
  have h1:y≠u:=fun e=>hn ((hst y).2 (.inl e))
  rw[Cr (.inl rfl) tl (Ne.symm h1)]
  by_cases e:y=j
  ·subst e; rw[F4 (.inl rfl) (by decide) (by omega)]
  ·rw[Cr (.inl rfl) (by decide) (Ne.symm e)]
   exact hP y hy fun hq=>hn ((hst y).2 (.inr ⟨e,hq⟩))
theorem lJ {m':HM} {x j:Nat} {o:RO} (hx:(D7 m)[x]?=some j) (hst:∀ y,Start m' y↔Start m y) (hr:∀ y,Start m y→y≠j→D5 m' y=D5 m y) (ho:D5 m' j=o):KE m'=(KE m).set x o:=by
 obtain ⟨hxl,hxe⟩:=List.getElem?_eq_some_iff.1 hx
 have hnd:(D7 m).Nodup:=XH _ _
 rw[fM (OB m) (fun y=>by rw[Es,hst])]
 apply List.ext_getElem?
 intro i
 unfold KE
 rw[List.getElem?_map,List.getElem?_set,List.length_map,List.getElem?_map]
 by_cases e:x=i
 ·subst e
  rw[if_pos rfl,if_pos hxl,hx,← ho]; rfl
 ·rw[if_neg e]
  cases hq:(D7 m)[i]? with
  | none=>rfl
  | some y=>
    obtain ⟨hil,hie⟩:=List.getElem?_eq_some_iff.1 hq
    have hy:Start m y:=Es.1 (hie ▸ List.getElem_mem hil)
    show some _=some _
    rw[hr y hy (fun e'=>e ((List.getElem_inj hnd).1 (hxe.trans (e'.symm.trans hie.symm))))]
theorem iN {m':HM} {a i n:Nat} {v:Int} (hi:i<n) (hal:a+i<m.wds.length) (hw:m'.wds=m.wds.set (a+i) v):QC m' a n=(QC m a n).set i v:=by
 apply List.ext_getElem?
 intro q
 rw[List.getElem?_set,Vb]
 by_cases hq:q<n
 ·rw[bX m' n a q hq,hw,CL]
  by_cases e:i=q
  ·subst e; rw[if_pos ⟨rfl,hal⟩,if_pos rfl,if_pos hi]
  ·rw[if_neg (fun h=>e (by omega)),if_neg e,bX m n a q hq]
 ·rw[List.getElem?_eq_none (by rw[Vb]; omega),if_neg (by omega),List.getElem?_eq_none (by rw[Vb]; omega)]
theorem iM {m':HM} {a n p:Nat} {v:Int} (h:p<a∨a+n≤p) (hw:m'.wds=m.wds.set p v):QC m' a n=QC m a n:=
 Vv n a a fun q hq=>by rw[hw,CL,if_neg (by omega)]
theorem RU.word (h:RU m t) (hI:Inv m) (hP:NS m) {x j q:Nat} (hs:Start m j) (hx:(D7 m)[x]?=some j) (hq:2+q<use m j) (v:Int):
  RU (PB m (2*j+2+q) v) { t with ob:=t.ob.set x (if (q:Int)<BV m j then { D5 m j with refs:=(D5 m j).refs.set q v } else { D5 m j with data:=(D5 m j).data.set (q-(BV m j).toNat) v }) }∧NS (PB m (2*j+2+q) v):=by
 have hu:=hI.use hs
 have hfit:=hI.fit j hs
 have hst:∀ y,Start (PB m (2*j+2+q) v) y↔Start m y:=fun y=>Iff.rfl
 obtain ⟨_,r1,r2,r3,r4,_⟩:=jh hI hs
 have key:=ji hI hs (t:=q) (by omega) v
 have e:KE (PB m (2*j+2+q) v)=(KE m).set x (if (q:Int)<BV m j then { D5 m j with refs:=(D5 m j).refs.set q v } else { D5 m j with data:=(D5 m j).data.set (q-(BV m j).toNat) v }):=by
  refine lJ hx hst (fun y hy hne=>?_) ?_
  ·refine PQ hI hy (fun c hc=>?_) rfl
   show (m.wds.set _ _).getD _ 0=_
   rw[CL,if_neg]
   rintro ⟨e,_⟩
   exact hne (ah hI hy hs (a:=2*j+2+q) (by omega) (by omega) (by omega) (by omega))
  ·have k0:=key j hs 0 (by decide)
   have k1:=key j hs 1 (by decide)
   obtain ⟨_,_,er,ed⟩:=We (m:=m) (m':=PB m (2*j+2+q) v) (j:=j) (j':=j) k1
   have ek:Hh (PB m (2*j+2+q) v) j=Hh m j:=by unfold Hh; rw[k1]
   simp only[Nat.add_zero] at k0
   unfold D5
   rw[k0,er,ed,ek]
   by_cases hc:(q:Int)<BV m j
   ·have a1:QC (PB m (2*j+2+q) v) (2*j+2) (BV m j).toNat=(QC m (2*j+2) (BV m j).toNat).set q v:=iN (by omega) (by omega) rfl
    have a2:QC (PB m (2*j+2+q) v) (2*j+2+(BV m j).toNat) (E5 m j).toNat=QC m (2*j+2+(BV m j).toNat) (E5 m j).toNat:=iM (p:=2*j+2+q) (v:=v) (by omega) rfl
    rw[if_pos hc,a1,a2]
    rfl
   ·have a1:QC (PB m (2*j+2+q) v) (2*j+2) (BV m j).toNat=QC m (2*j+2) (BV m j).toNat:=iM (p:=2*j+2+q) (v:=v) (by omega) rfl
    have a2:QC (PB m (2*j+2+q) v) (2*j+2+(BV m j).toNat) (E5 m j).toNat=(QC m (2*j+2+(BV m j).toNat) (E5 m j).toNat).set (q-(BV m j).toNat) v:=iN (by omega) (by omega) (by
     show m.wds.set _ _=_
     rw[show 2*j+2+q=2*j+2+(BV m j).toNat+(q-(BV m j).toNat) from by omega])
    rw[if_neg hc,a1,a2]
    rfl
 exact ⟨h.CT h.bl (by show t.ob.set x _=_; rw[e,h.ob]) h.born rfl rfl,hP⟩
theorem RU.pins (h:RU m t) (hI:Inv m) (hS:Sh m) (hP:NS m) {x j:Nat} (hs:Start m j) (hx:(D7 m)[x]?=some j) (b:Bool):
  RU { m with pnw:=Hm 1 m.pnw j (if b then 1 else 0) } { t with ob:=t.ob.set x { D5 m j with pin:=b } }∧NS { m with pnw:=Hm 1 m.pnw j (if b then 1 else 0) }:=by
 have hpl:=hS.pl
 have hj:=hs.1
 have hb:(if b then 1 else 0)<2 ^ 1:=by cases b <;> decide
 have e:KE { m with pnw:=Hm 1 m.pnw j (if b then 1 else 0) }=(KE m).set x { D5 m j with pin:=b }:=by
  refine lJ hx (fun y=>Iff.rfl) (fun y hy hne=>PQ hI hy (fun c hc=>rfl) ?_) ?_
  ·show Ge 1 (Hm 1 m.pnw j _) y=_
   rw[Cr (.inl rfl) hb (Ne.symm hne)]
  ·show (⟨_,_,_,_,_,_,_,decide (Ge 1 (Hm 1 m.pnw j (if b then 1 else 0)) j=1)⟩:RO)=_
   rw[F4 (.inl rfl) hb (by omega)]
   cases b <;> rfl
 refine ⟨h.CT h.bl (by show t.ob.set x _=_; rw[e,h.ob]) h.born rfl rfl,fun y hy hn=>?_⟩
 show Ge 1 (Hm 1 m.pnw j _) y=0
 have hne:y≠j:=fun e=>hn (e ▸ hs)
 rw[Cr (.inl rfl) hb (Ne.symm hne)]
 exact hP y hy hn
theorem RU.forget (h:RU m t):RU { m with fw:=[] } { t with fw:=[] }:=⟨h.bl,h.ob,h.born,fun _=>rfl,rfl,trivial,trivial⟩
theorem RU.blocks (h:RU m t) (l:List (Int × Int)) (hl:l.length=m.bls.length):RU { m with bls:=l } { t with bl:=l }:=by
 refine h.CT rfl ?_ h.born rfl rfl
 show t.ob=_
 rw[h.ob]
 unfold KE D7
 show _=(Cf { m with bls:=l } 0 (32*l.length)).map _
 rw[hl]; rfl
theorem NS.blocks (hP:NS m) (l:List (Int × Int)) (hl:l.length=m.bls.length):NS { m with bls:=l }:=by
 intro y hy hn
 have hy:y<32*l.length:=hy
 refine hP y (by omega) fun hs=>hn ⟨?_,hs.2⟩
 show y<32*l.length
 exact hy
end Go.Proofs.YtlaplcglpnlieaaGreat
end
section
namespace Go.Proofs.YtlaplcglpnlieaaGreat
open Go Go.AX
noncomputable local instance vT:AF:=Au
local instance uJ:Kn:=⟨true⟩
variable {σ:Aa} {m:HM} {t:RM}
def KX (σ:Aa) (s:E8) (l:List Int):Prop:=s.2.1=l.length∧(l≠[] → ∃ b c,s=(some ⟨b,0,none⟩,l.length,c)∧σ[b]?=some (.cells (Df l) B9 true)) ∧ ∀ a,s.1=some a → ∃ cs T w,σ[a.block]?=some (.cells cs T w)∧a.off≤cs.length
def hs (s:E8):List Nat:=match s.1 with
 | some a=>[a.block]
 | none=>[]
theorem JO {s:E8} {b:Nat}:b ∈ hs s ↔ ∃ a,s.1=some a∧a.block=b:=by
 unfold hs
 cases s.1 with
 | none=>simp
 | some a=>simp[eq_comm]
def FI (o:RO) (p:E8 × E8):List Value:=[.int .i64 o.addr,.int .i64 o.id,.int .i64 o.r,.int .i64 o.d,.int .i64 o.k,.slice p.1.1 p.1.2.1 p.1.2.2,.slice p.2.1 p.2.2.1 p.2.2.2,.bool o.pin]
def HO:List RO→List (E8 × E8)→List Value
 | o::l,p::om=>FI o p++HO l om
 | _,_=>[]
theorem Vp:∀ (l:List RO) (om:List (E8 × E8)),om.length=l.length→(HO l om).length=l.length*8
 | [],[],_=>rfl
 | [],p::om,h=>by simp at h
 | o::l,[],h=>by simp at h
 | o::l,p::om,h=>by
   have:=Vp l om (by simpa using h)
   simp[HO,FI,this]; omega
theorem dM:∀ (l:List RO) (om:List (E8 × E8)) (x:Nat) (h:x<l.length) (h':x<om.length) (q:Nat),q<8→(HO l om)[x*8+q]?=(FI l[x] om[x])[q]?
 | [],om,x,h,_,_,_=>by simp at h
 | o::l,[],x,_,h',_,_=>by simp at h'
 | o::l,p::om,0,h,h',q,hq=>by
   simp only[HO,Nat.zero_mul,Nat.zero_add,List.getElem_cons_zero]
   rw[List.getElem?_append_left (by simp[FI]; omega)]
 | o::l,p::om,x+1,h,h',q,hq=>by
   have ih:=dM l om x (by simpa using h) (by simpa using h') q hq
   simp only[HO,List.getElem_cons_succ]
   rw[List.getElem?_append_right (by simp[FI]; omega),show (x+1)*8+q-(FI o p).length=x*8+q from by simp[FI]; omega,ih]
def eK (σ:Aa) (s:E8) (l:List (Int × Int)):Prop:=BQ Zr 2 σ s l.length (CE l)∨(l=[] ∧ ∃ b cs T w,s=(some ⟨b,0,some 0⟩,0,0)∧σ[b]?=some (.cells cs T w))
theorem eK.CT {σ':Aa} {s:E8} {l:List (Int × Int)} (h:eK σ s l) (hs:∀ a,s.1=some a→σ'[a.block]?=σ[a.block]?):eK σ' s l:=by
 rcases h with h | ⟨h0,b,cs,T,w,rfl,hc⟩
 ·exact .inl (h.CT hs)
 ·exact .inr ⟨h0,b,cs,T,w,rfl,(hs _ rfl).trans hc⟩
theorem eK.form {s:E8} {l:List (Int × Int)} (h:eK σ s l):s=(s.1,l.length,l.length):=by
 rcases h with h | ⟨rfl,b,cs,T,w,rfl,hc⟩
 ·exact h.form
 ·rfl
theorem eK.sl {s:E8} {l:List (Int × Int)} (h:eK σ s l) {x:Nat} (hx:x<l.length):BQ Zr 2 σ s l.length (CE l):=by
 rcases h with h | ⟨rfl,_⟩
 ·exact h
 ·simp at hx
structure RI where
 hb:Nat
 bs:E8
 os:E8
 fs:E8
 om:List (E8 × E8)
def RI.l (i:RI):List Nat:=i.hb::(hs i.bs++(hs i.os++(hs i.fs++i.om.flatMap fun p=>hs p.1++hs p.2)))
structure NB (σ:Aa) (i:RI) (t:RM):Prop where
 hp:σ[i.hb]?=some (.cells [.slice i.bs.1 i.bs.2.1 i.bs.2.2,.slice i.os.1 i.os.2.1 i.os.2.2,.slice i.fs.1 i.fs.2.1 i.fs.2.2,.int .i64 t.born] EI true)
 bl:BQ AA 2 σ i.bs t.bl.length (CE t.bl)
 ob:BQ Aj 8 σ i.os t.ob.length (HO t.ob i.om)
 fw:eK σ i.fs t.fw
 ol:i.om.length=t.ob.length
 inn:∀ (x:Nat) (h:x<t.ob.length) (h':x<i.om.length),KX σ i.om[x].1 t.ob[x].refs∧KX σ i.om[x].2 t.ob[x].data
 nd:i.l.Nodup
 lt:∀ j ∈ i.l,j<σ.length
theorem KX.CT {σ':Aa} {s:E8} {l:List Int} (h:KX σ s l) (hs:∀ b ∈ hs s,σ'[b]?=σ[b]?):KX σ' s l:=by
 refine ⟨h.1,fun hn=>?_,fun a ha=>?_⟩
 ·obtain ⟨b,c,rfl,hc⟩:=h.2.1 hn
  exact ⟨b,c,rfl,(hs b (JO.2 ⟨_,rfl,rfl⟩)).trans hc⟩
 ·obtain ⟨cs,T,w,h1,h2⟩:=h.2.2 a ha
  exact ⟨cs,T,w,(hs _ (JO.2 ⟨a,ha,rfl⟩)).trans h1,h2⟩
theorem RI.R8 (i:RI):i.hb ∈ i.l:=List.mem_cons_self
theorem RI.rq (i:RI) {b:Nat} (h:b ∈ hs i.bs):b ∈ i.l:=List.mem_cons_of_mem _ (List.mem_append.2 (.inl h))
theorem RI.rL (i:RI) {b:Nat} (h:b ∈ hs i.os):b ∈ i.l:=List.mem_cons_of_mem _ (List.mem_append.2 (.inr (List.mem_append.2 (.inl h))))
theorem RI.rA (i:RI) {b:Nat} (h:b ∈ hs i.fs):b ∈ i.l:=List.mem_cons_of_mem _ (List.mem_append.2 (.inr (List.mem_append.2 (.inr (List.mem_append.2 (.inl h))))))
theorem RI.WC (i:RI) {b x:Nat} (hx:x<i.om.length) (h:b ∈ hs i.om[x].1∨b ∈ hs i.om[x].2):b ∈ i.l:=
 List.mem_cons_of_mem _ (List.mem_append.2 (.inr (List.mem_append.2 (.inr (List.mem_append.2 (.inr (List.mem_flatMap.2 ⟨_,List.getElem_mem hx,List.mem_append.2 h⟩)))))))
theorem NB.CT {σ':Aa} {i:RI} (h:NB σ i t) (hs:∀ j ∈ i.l,σ'[j]?=σ[j]?) (hl:σ.length≤σ'.length):NB σ' i t where
 hp:=(hs _ i.R8).trans h.hp
 bl:=h.bl.CT fun a ha=>hs _ (i.rq (JO.2 ⟨a,ha,rfl⟩))
 ob:=h.ob.CT fun a ha=>hs _ (i.rL (JO.2 ⟨a,ha,rfl⟩))
 fw:=h.fw.CT fun a ha=>hs _ (i.rA (JO.2 ⟨a,ha,rfl⟩))
 ol:=h.ol
 inn:=fun x p q=>⟨(h.inn x p q).1.CT fun b hb=>hs _ (i.WC q (.inl hb)),(h.inn x p q).2.CT fun b hb=>hs _ (i.WC q (.inr hb))⟩
 nd:=h.nd
 lt:=fun j hj=>Nat.lt_of_lt_of_le (h.lt j hj) hl
theorem NB.app {i:RI} (h:NB σ i t) (τ:Aa):NB (σ++τ) i t:=h.CT (fun j hj=>List.getElem?_append_left (h.lt j hj)) (by simp)
abbrev Ci (i:RI):Option Addr:=some ⟨i.hb,0,none⟩
variable {i:RI}
theorem NB.Sw (h:NB σ i t):Ew σ i.hb 0=some (i.bs.1,t.bl.length,t.bl.length):=by
 have:=h.bl.form
 simp only[Ew,Gy,h.hp]
 rw[this]; simp[H7]
theorem NB.N0 (h:NB σ i t):Ew σ i.hb 1=some (i.os.1,t.ob.length,t.ob.length):=by
 have:=h.ob.form
 simp only[Ew,Gy,h.hp]
 rw[this]; simp[H7]
theorem NB.lu (h:NB σ i t):Ew σ i.hb 2=some (i.fs.1,t.fw.length,t.fw.length):=by
 have:=h.fw.form
 simp only[Ew,Gy,h.hp]
 rw[this]; simp[H7]
theorem NB.sE (h:NB σ i t):Ai .i64 σ i.hb 3=some t.born:=by simp[Ai,Gy,h.hp,BA]
theorem Vq {E:TypeId} {sl:E8} {l:List (Int × Int)} (h:BQ E 2 σ sl l.length (CE l)) {x:Nat} (hx:x<l.length):∃ b,sl.1=some ⟨b,0,none⟩∧Ai .i64 σ b (x*2)=some (l.getD x (0,0)).1∧Ai .i64 σ b (x*2+1)=some (l.getD x (0,0)).2∧σ[b]?=some (.cells (CE l) E true):=by
 rcases h with ⟨h0,_⟩ | ⟨b,rfl,_,_,hc⟩
 ·omega
 ·obtain ⟨g0,g1⟩:=Se l x hx
  rw[Nat.mul_comm] at g0 g1
  refine ⟨b,rfl, ?_, ?_,hc⟩
  ·simp only[Ai,Gy,hc,g0,Option.bind_some,Am]
  ·simp only[Ai,Gy,hc,g1,Option.bind_some,Am]
structure rf (σ:Aa) (b x:Nat) (o:RO) (p:E8 × E8):Prop where
 l0:Ai .i64 σ b (x*8)=some o.addr
 l1:Ai .i64 σ b (x*8+1)=some o.id
 l2:Ai .i64 σ b (x*8+2)=some o.r
 l3:Ai .i64 σ b (x*8+3)=some o.d
 l4:Ai .i64 σ b (x*8+4)=some o.k
 l5:Ew σ b (x*8+5)=some (p.1.1,p.1.2.1,p.1.2.2)
 l6:Ew σ b (x*8+6)=some (p.2.1,p.2.2.1,p.2.2.2)
 l7:WS σ b (x*8+7)=some o.pin
theorem NB.obj (h:NB σ i t) {x:Nat} (hx:x<t.ob.length):∃ b,i.os.1=some ⟨b,0,none⟩∧σ[b]?=some (.cells (HO t.ob i.om) Aj true) ∧ ∀ (h':x<i.om.length),rf σ b x t.ob[x] i.om[x]:=by
 rcases h.ob with ⟨h0,_⟩ | ⟨b,e,_,_,hc⟩
 ·omega
 ·refine ⟨b,by rw[e],hc,fun h'=>?_⟩
  have g:=fun q hq=>dM t.ob i.om x hx h' q hq
  have g0:=g 0 (by decide)
  rw[Nat.add_zero] at g0
  constructor
  ·simp only[Ai,Gy,hc,g0]; rfl
  ·simp only[Ai,Gy,hc,g 1 (by decide)]; rfl
  ·simp only[Ai,Gy,hc,g 2 (by decide)]; rfl
  ·simp only[Ai,Gy,hc,g 3 (by decide)]; rfl
  ·simp only[Ai,Gy,hc,g 4 (by decide)]; rfl
  ·simp only[Ew,Gy,hc,g 5 (by decide)]; rfl
  ·simp only[Ew,Gy,hc,g 6 (by decide)]; rfl
  ·simp only[WS,Gy,hc,g 7 (by decide)]; rfl
theorem bP (k:Nat) (h:NB σ i t) (hb:t.bl≠[]):An (k+1) (Ci i) σ=some (.bool true,σ):=by
 have:0<t.bl.length:=List.length_pos_iff.2 hb
 rw[U7,Rd]
 simp only[aF,Option.bind_some,Bool.not_false,cond_true,Nat.zero_add,Nat.add_zero,h.Sw]
 rw[decide_eq_true (by omega)]
theorem X6 (k:Nat) (h:NB σ i t) (hn:t.ob.length≤5000) (a:Int):∀ (n x f:Nat),x+n=t.ob.length→n<f→EG k f (Ci i) a (x:Int) σ=some (match QR (t.ob.drop x) a with | some y=>(.ret,[.int .i64 ((x+y:Nat):Int)],σ) | none=>(.exit 0,[],σ))
 | 0,x,0,hx,hf=>by omega
 | 0,x,f+1,hx,hf=>by
   rw[L6,JF,List.drop_eq_nil_of_le (by omega)]
   have q:decide ((x:Int)<((t.ob.length:Nat):Int))=false:=decide_eq_false (by omega)
   simp only[Option.bind_some,Nat.zero_add,Nat.add_zero,h.N0,q,cond_false,QR]
 | n+1,x,0,hx,hf=>by omega
 | n+1,x,f+1,hx,hf=>by
   have hxl:x<t.ob.length:=by omega
   have ih:=X6 k h hn a n (x+1) f (by omega) (by omega)
   obtain ⟨b,eb,_,L⟩:=h.obj hxl
   have L:=L (by rw[h.ol]; exact hxl)
   rw[List.drop_eq_getElem_cons hxl,L6,JF,QR]
   have q:decide ((x:Int)<((t.ob.length:Nat):Int))=true:=decide_eq_true (by omega)
   have qx:(0≤(x:Int)∧(x:Int)<((t.ob.length:Nat):Int))=True:=eq_true (by omega)
   have w1:Ac ((x:Int)+1)=((x+1:Nat):Int):=Ad (by unfold AW; omega)
   simp only[Option.bind_some,Nat.zero_add,Nat.add_zero,h.N0,q,cond_true,qx,if_true,eb,Int.toNat_natCast,L.l0,w1]
   by_cases e:t.ob[x].addr=a
   ·rw[if_pos e,beq_iff_eq.2 e]; simp only[cond_true,Nat.add_zero]
   ·rw[if_neg e,beq_eq_false_iff_ne.2 e]
    simp only[cond_false,ih]
    cases QR (t.ob.drop (x+1)) a with
    | none=>rfl
    | some y=>simp only[Option.map_some,show x+(y+1)=x+1+y from by omega]
def jS (l:List RO) (a:Int):Int:=match QR l a with
 | some x=>(x:Int)
 | none=>-1
theorem dY (k:Nat) (hk:5000≤k) (h:NB σ i t) (hb:t.bl≠[]) (hn:t.ob.length≤5000) (a:Int):Cv (k+2) (Ci i) a σ=some (.int .i64 (jS t.ob a),σ):=by
 have e:=X6 (k+1) h hn a t.ob.length 0 (k+1) (by omega) (by omega)
 rw[List.drop_zero,show ((0:Nat):Int)=0 from rfl] at e
 rw[TT,Qa]
 simp only[bP k h hb,Option.bind_some,As,Bool.not_true,cond_false,e,jS]
 cases QR t.ob a with
 | none=>simp only[if_true]
 | some y=>simp only[reduceCtorEq,if_false,if_true,D4,Nat.zero_add]
theorem ow {l:List RO} {a:Int}:decide (jS l a<0)=(QR l a).isNone:=by
 unfold jS
 cases QR l a with
 | none=>rfl
 | some y=>exact decide_eq_false (show ¬ ((y:Nat):Int)<0 by omega)
theorem mY (k:Nat) (hk:5000≤k) (h:NB σ i t) (hb:t.bl≠[]) (hn:t.ob.length≤5000) (a:Int):FW (k+3) (Ci i) a σ=some (.int .i64 (if (QR t.ob a).isSome then 0 else 4),σ):=by
 rw[Uc,Qi]
 simp only[bP (k+1) h hb,Option.bind_some,As,Bool.not_true,cond_false,dY k hk h hb hn a,Am,ow]
 cases QR t.ob a <;> rfl
end Go.Proofs.YtlaplcglpnlieaaGreat
end
