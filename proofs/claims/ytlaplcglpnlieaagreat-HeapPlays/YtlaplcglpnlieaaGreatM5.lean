/-
  SH SN SNL ST SI.
-/
import Derived.Test.YtlaplcglpnlieaaGreatM4
import Derived.Test.YtlaplcglpnlieaaGreatCX
import Derived.Test.YtlaplcglpnlieaaGreatAXM
import Derived.Test.YtlaplcglpnlieaaGreatAXL
set_option linter.unusedVariables false
set_option linter.unusedSimpArgs false
namespace Go.Proofs.YtlaplcglpnlieaaGreat
open Go Go.AX
section
open Go Go.AX
noncomputable local instance qSH:Quiet:=fullQuiet
local instance nSH:Kn:=⟨true⟩
variable {σ:AMem} {m:HM} {t:RM} {i:HIds} {j:RI}
structure Apart (i:HIds) (j j':RI) (σ σ':AMem):Prop where
  len:σ.length≤σ'.length
  same:∀ q,q<σ.length→q ∉ i.l→q ∉ j.l→σ'[q]?=σ[q]?
  new:∀ q,q ∈ j'.l→q ∈ j.l∨σ.length≤q
  hb:j'.hb=j.hb
theorem keep_full {a:Addr} {σ σ':AMem} {ρ:Type} (h:σ'[a.block]?=σ[a.block]?) (x:Option ρ):keepP (some a) σ σ' x=x:=by
  have:@Quiet.k fullQuiet σ σ' a.block=true:=by
    unfold fullQuiet
    simpa using h
  unfold keepP
  simp only[this,cond_true]
theorem play_step {μ:AMem} {A:Option (Value × AMem)} {B:AMem→Option (Value × AMem)} (W:Two μ i j m t) {v:Value} {m':HM} (hA:∃ σ1,A=some (v,σ1)∧HeapAt σ1 i m'∧Keeps i μ σ1) (hI:Inv m') (hI2:Inv2 m') (hF:FZ m') (hb:B0 m') (hbr:m'.births≤1000) (hfl:m'.fw.length≤1000)
    (hR:∀ σ1,RG σ1 j m t→RGoes (B σ1) σ1 j v m'):∃ σ1 σ2 j' t',A=some (v,σ1)∧B σ1=some (v,σ2)∧Two σ2 i j' m' t'∧Apart i j j' μ σ2∧(∀ q,q<μ.length→q ∉ i.l→σ1[q]?=μ[q]?):=by
  obtain ⟨σ1,eA,h1,k1⟩:=hA
  have g1:RG σ1 j m t:=W.g.like (fun q hq=>k1.same q (W.g.at_.lt q hq) fun hm=>W.off q hm hq) k1.len
  obtain ⟨σ2,j',t',eB,r2,s2,p2,k2⟩:=hR σ1 g1
  have h2:HeapAt σ2 i m':=h1.like fun q hq=>k2.same q (h1.lt q hq) (W.off q hq)
  refine ⟨σ1,σ2,j',t',eA,eB,⟨h2,⟨r2,s2,hI,hI2,h2.wl,h2.nb,h2.nt⟩,p2,hF,hb,fun q hq hm=>?_,hbr,hfl⟩,⟨Nat.le_trans k1.len k2.len,fun q h1' h2' h3'=>?_,fun q hq=>?_,k2.hb⟩,fun q h1' h2'=>k1.same q h1' h2'⟩
  · rcases k2.new q hm with e | e
    · exact W.off q hq e
    · have:=h1.lt q hq; omega
  · rw[k2.same q (Nat.lt_of_lt_of_le h1' k1.len) h3',k1.same q h1' h2']
  · rcases k2.new q hq with e | e
    · exact .inl e
    · exact .inr (Nat.le_trans k1.len e)
theorem fwl_if {c:Prop} [Decidable c] {r r':Int × HM} {n:Nat} (h:c→r.2.fw.length≤n) (h':¬ c→r'.2.fw.length≤n):(if c then r else r').2.fw.length≤n:=by
  split
  · exact h ‹_›
  · exact h' ‹_›
theorem doR_fw (m:HM) (x:ActV):(doR m x).2.fw.length≤m.fw.length+1:=by
  have s:m.fw.length≤m.fw.length+1:=by omega
  unfold doR
  refine fwl_if (fun _=>?_) fun _=>?_
  · unfold claimR; exact fwl_if (fun _=>fwl_if (fun _=>s) fun _=>s) fun _=>s
  refine fwl_if (fun _=>?_) fun _=>?_
  · unfold claimR; exact fwl_if (fun _=>fwl_if (fun _=>s) fun _=>s) fun _=>s
  refine fwl_if (fun _=>?_) fun _=>?_
  · unfold releaseR; exact fwl_if (fun _=>fwl_if (fun _=>s) fun _=>s) fun _=>s
  refine fwl_if (fun _=>?_) fun _=>?_
  · unfold retagR; exact fwl_if (fun _=>s) fun _=>s
  refine fwl_if (fun _=>?_) fun _=>?_
  · unfold placeR
    split
    · split
      · exact s
      · exact s
    · exact s
  refine fwl_if (fun _=>?_) fun _=>?_
  · unfold killR; exact fwl_if (fun _=>s) fun _=>s
  refine fwl_if (fun _=>?_) fun _=>?_
  · unfold moveR; exact fwl_if (fun _=>fwl_if (fun _=>by show (setM _ _ m.fw).length≤_; rw[setM_len]; split <;> omega) fun _=>s) fun _=>s
  refine fwl_if (fun _=>?_) fun _=>?_
  · unfold setRefR; exact fwl_if (fun _=>fwl_if (fun _=>s) fun _=>s) fun _=>s
  refine fwl_if (fun _=>?_) fun _=>?_
  · unfold setDataR; exact fwl_if (fun _=>s) fun _=>s
  refine fwl_if (fun _=>?_) fun _=>?_
  · unfold pokeR
    refine fwl_if (fun _=>?_) fun _=>s
    split
    · exact s
    · exact fwl_if (fun _=>s) fun _=>s
  refine fwl_if (fun _=>?_) fun _=>?_
  · unfold pinR; exact fwl_if (fun _=>s) fun _=>s
  refine fwl_if (fun _=>?_) fun _=>?_
  · unfold pinR; exact fwl_if (fun _=>s) fun _=>s
  exact fwl_if (fun _=>Nat.zero_le _) fun _=>s
theorem Play_to (k:Nat) (hk:5000≤k) (W0:Two σ i j m t) (hb:m.births<1000) (hfl:m.fw.length<1000) (x:ActV) (hx:x.ok):
    ∃ σ' j' t',d_law02_Play (k+13) (hptr i) (rptr j) x.k x.a x.b x.c x.r x.d x.s σ=some (.bool true,σ')∧Two σ' i j' (doR m x).2 t'∧Apart i j j' σ σ':=by
  obtain ⟨h1,h2,h3,h4,h5,h6,h7⟩:=hx
  obtain ⟨I1,I2,_,b2,_,_⟩:=doR_keep W0.g.inv W0.g.inv2 W0.h.sh x
  have hF:=doR_fz W0.z x
  have hB:=W0.b0.do x
  have hfw:=doR_fw m x
  rw[d_law02_Play_eq,b_law02_Play]
  simp only[allocK]
  obtain ⟨μ,hμ⟩:∃ μ,σ++[AObj.cells [Value.int .i64 x.k,.int .i64 x.a,.int .i64 x.b,.int .i64 x.c,.int .i64 x.r,.int .i64 x.d,.int .i64 x.s] ty_dustcartlaw02_Act true]=μ:=⟨_,rfl⟩
  have W:Two μ i j m t:=hμ ▸ W0.app _
  have hbox:μ[σ.length]?=some (AObj.cells [Value.int .i64 x.k,.int .i64 x.a,.int .i64 x.b,.int .i64 x.c,.int .i64 x.r,.int .i64 x.d,.int .i64 x.s] ty_dustcartlaw02_Act true):=by rw[← hμ]; simp
  have hlt:σ.length<μ.length:=getElem?_lt hbox
  have hoff:σ.length ∉ i.l:=fun hm=>Nat.lt_irrefl _ (W0.h.lt _ hm)
  have apart:∀ {j':RI} {σ':AMem},Apart i j j' μ σ'→Apart i j j' σ σ':=fun {j' σ'} a=>⟨by have:=a.len; omega,fun q q1 q2 q3=>by rw[a.same q (by omega) q2 q3,← hμ,List.getElem?_append_left q1],fun q hq=>(a.new q hq).imp id fun h=>by omega,a.hb⟩
  have ldq:∀ (μ':AMem),μ'[σ.length]?=μ[σ.length]?→ldI .i64 μ' σ.length 0=some x.k∧ldI .i64 μ' σ.length 1=some x.a∧ldI .i64 μ' σ.length 2=some x.b∧ldI .i64 μ' σ.length 3=some x.c∧ldI .i64 μ' σ.length 4=some x.r∧ldI .i64 μ' σ.length 5=some x.d∧ldI .i64 μ' σ.length 6=some x.s:=by
    intro μ' h
    rw[hbox] at h
    refine ⟨?_, ?_, ?_, ?_, ?_, ?_, ?_⟩ <;> simp[ldI,ld1,h,toI]
  obtain ⟨l0,l1,l2,l3,l4,l5,l6⟩:=ldq μ rfl
  rw[hμ]
  simp only[Nat.zero_add,Nat.reduceAdd,l0,Option.bind_some]
  have c1:∀ (n:Int),x.k=n→(x.k == n)=true:=fun n hq=>by simpa using hq
  have c0:∀ (n:Int),x.k≠n→(x.k == n)=false:=fun n hq=>by simpa using hq
  by_cases q0:x.k=0
  · have hd:doR m x=claimR m x.a 1 1 x.b 0 0:=by unfold doR; simp[q0]
    rw[hd] at I1 I2 b2 hF hB hfw ⊢
    have hA:=Claim_goes (k+5) (by omega) W.h x.a x.b h2
    obtain ⟨σ1,σ2,j',t',eA,eB,W2,a2,s1⟩:=play_step (A:=d_heap_Heap_Claim (k+12) (hptr i) x.a x.b μ) (B:=fun μ=>d_ref02_Heap_Claim (k+12) (rptr j) x.a x.b μ) W hA I1 I2 hF hB (by omega) (by omega) (fun σ1 g=>rClaim_to (k+10) g W.P W.z x.a x.b)
    obtain ⟨_,m1,m2,m3,m4,m5,m6⟩:=ldq σ1 (s1 _ hlt hoff)
    have eB':d_ref02_Heap_Claim (k+12) (rptr j) x.a x.b σ1=_:=eB
    have kp:∀ {ρ:Type} (y:Option ρ),keepP (some ⟨σ.length,0,none⟩) μ σ1 y=y:=fun y=>keep_full (s1 _ hlt hoff) y
    refine ⟨σ2,j',t', ?_,W2,apart a2⟩
    simp only[c1 0 q0,cond_true,l1,l2,Option.bind_some,eA,toI_int,kp,m1,m2,eB',beq_self_eq_true]
  simp only[c0 0 q0,cond_false]
  by_cases q1:x.k=1
  · have hd:doR m x=claimR m x.a x.b 2 x.c 3 x.c:=by unfold doR; simp[q1]
    rw[hd] at I1 I2 b2 hF hB hfw ⊢
    have hA:=ClaimLarge_goes (k+5) (by omega) W.h x.a x.b x.c h2 h3
    obtain ⟨σ1,σ2,j',t',eA,eB,W2,a2,s1⟩:=play_step (A:=d_heap_Heap_ClaimLarge (k+12) (hptr i) x.a x.b x.c μ) (B:=fun μ=>d_ref02_Heap_ClaimLarge (k+12) (rptr j) x.a x.b x.c μ) W hA I1 I2 hF hB (by omega) (by omega) (fun σ1 g=>rClaimLarge_to (k+10) (by omega) g W.P W.z x.a x.b x.c h2 h3)
    obtain ⟨_,m1,m2,m3,m4,m5,m6⟩:=ldq σ1 (s1 _ hlt hoff)
    have eB':d_ref02_Heap_ClaimLarge (k+12) (rptr j) x.a x.b x.c σ1=_:=eB
    have kp:∀ {ρ:Type} (y:Option ρ),keepP (some ⟨σ.length,0,none⟩) μ σ1 y=y:=fun y=>keep_full (s1 _ hlt hoff) y
    refine ⟨σ2,j',t', ?_,W2,apart a2⟩
    simp only[c1 1 q1,cond_true,l1,l2,l3,Option.bind_some,eA,toI_int,kp,m1,m2,m3,eB',beq_self_eq_true]
  simp only[c0 1 q1,cond_false]
  by_cases q2:x.k=2
  · have hd:doR m x=releaseR m x.a:=by unfold doR; simp[q2]
    rw[hd] at I1 I2 b2 hF hB hfw ⊢
    have hA:=Release_goes (k+5) (by omega) W.h x.a
    obtain ⟨σ1,σ2,j',t',eA,eB,W2,a2,s1⟩:=play_step (A:=d_heap_Heap_Release (k+12) (hptr i) x.a μ) (B:=fun μ=>d_ref02_Heap_Release (k+12) (rptr j) x.a μ) W hA I1 I2 hF hB (by omega) (by omega) (fun σ1 g=>rRelease_to (k+9) (by omega) g W.P x.a)
    obtain ⟨_,m1,m2,m3,m4,m5,m6⟩:=ldq σ1 (s1 _ hlt hoff)
    have eB':d_ref02_Heap_Release (k+12) (rptr j) x.a σ1=_:=eB
    have kp:∀ {ρ:Type} (y:Option ρ),keepP (some ⟨σ.length,0,none⟩) μ σ1 y=y:=fun y=>keep_full (s1 _ hlt hoff) y
    refine ⟨σ2,j',t', ?_,W2,apart a2⟩
    simp only[c1 2 q2,cond_true,l1,Option.bind_some,eA,toI_int,kp,m1,eB',beq_self_eq_true]
  simp only[c0 2 q2,cond_false]
  by_cases q3:x.k=3
  · have hd:doR m x=retagR m x.a x.b:=by unfold doR; simp[q3]
    rw[hd] at I1 I2 b2 hF hB hfw ⊢
    have hA:=Retag_goes (k+7) (by omega) W.h x.a x.b
    obtain ⟨σ1,σ2,j',t',eA,eB,W2,a2,s1⟩:=play_step (A:=d_heap_Heap_Retag (k+12) (hptr i) x.a x.b μ) (B:=fun μ=>d_ref02_Heap_Retag (k+12) (rptr j) x.a x.b μ) W hA I1 I2 hF hB (by omega) (by omega) (fun σ1 g=>rRetag_to (k+9) (by omega) g W.P x.a x.b)
    obtain ⟨_,m1,m2,m3,m4,m5,m6⟩:=ldq σ1 (s1 _ hlt hoff)
    have eB':d_ref02_Heap_Retag (k+12) (rptr j) x.a x.b σ1=_:=eB
    have kp:∀ {ρ:Type} (y:Option ρ),keepP (some ⟨σ.length,0,none⟩) μ σ1 y=y:=fun y=>keep_full (s1 _ hlt hoff) y
    refine ⟨σ2,j',t', ?_,W2,apart a2⟩
    simp only[c1 3 q3,cond_true,l1,l2,Option.bind_some,eA,toI_int,kp,m1,m2,eB',beq_self_eq_true]
  simp only[c0 3 q3,cond_false]
  by_cases q4:x.k=4
  · have hd:doR m x=(placeR m x.a x.r x.d x.s).2:=by unfold doR; simp[q4]
    rw[hd] at I1 I2 b2 hF hB hfw ⊢
    obtain ⟨σ1,σ2,j',t',eA,eB,W2,a2,s1⟩:=play_step (A:=d_heap_Heap_Place (k+12) (hptr i) x.a x.r x.d x.s μ) (B:=fun μ=>d_ref02_Heap_Place (k+12) (rptr j) x.a x.r x.d x.s μ) W (Place_to k hk W.h W.g.inv (by omega) x.a x.r x.d x.s h2) I1 I2 hF hB (by omega) (by omega) (fun σ1 g=>rPlace_to (k+7) (by omega) g W.P W.h.sh (by omega) x.a x.r x.d x.s)
    obtain ⟨_,m1,m2,m3,m4,m5,m6⟩:=ldq σ1 (s1 _ hlt hoff)
    have eB':d_ref02_Heap_Place (k+12) (rptr j) x.a x.r x.d x.s σ1=_:=eB
    refine ⟨σ2,j',t', ?_,W2,apart a2⟩
    simp only[c1 4 q4,cond_true,l1,l4,l5,l6,Option.bind_some,eA,r_ii_eq,m1,m4,m5,m6,eB',beq_self_eq_true]
  simp only[c0 4 q4,cond_false]
  by_cases q5:x.k=5
  · have hd:doR m x=killR m x.a:=by unfold doR; simp[q5]
    rw[hd] at I1 I2 b2 hF hB hfw ⊢
    have hA:=Kill_goes k W.h W.g.inv x.a h2
    obtain ⟨σ1,σ2,j',t',eA,eB,W2,a2,s1⟩:=play_step (A:=d_heap_Heap_Kill (k+12) (hptr i) x.a μ) (B:=fun μ=>d_ref02_Heap_Kill (k+12) (rptr j) x.a μ) W hA I1 I2 hF hB (by omega) (by omega) (fun σ1 g=>rKill_to (k+8) (by omega) g W.P W.h.sh x.a)
    obtain ⟨_,m1,m2,m3,m4,m5,m6⟩:=ldq σ1 (s1 _ hlt hoff)
    have eB':d_ref02_Heap_Kill (k+12) (rptr j) x.a σ1=_:=eB
    have kp:∀ {ρ:Type} (y:Option ρ),keepP (some ⟨σ.length,0,none⟩) μ σ1 y=y:=fun y=>keep_full (s1 _ hlt hoff) y
    refine ⟨σ2,j',t', ?_,W2,apart a2⟩
    simp only[c1 5 q5,cond_true,l1,Option.bind_some,eA,toI_int,kp,m1,eB',beq_self_eq_true]
  simp only[c0 5 q5,cond_false]
  by_cases q6:x.k=6
  · have hd:doR m x=moveR m x.a x.b:=by unfold doR; simp[q6]
    rw[hd] at I1 I2 b2 hF hB hfw ⊢
    have hA:=Move_goes k hk W.h W.g.inv x.a x.b h2
    obtain ⟨σ1,σ2,j',t',eA,eB,W2,a2,s1⟩:=play_step (A:=d_heap_Heap_Move (k+12) (hptr i) x.a x.b μ) (B:=fun μ=>d_ref02_Heap_Move (k+12) (rptr j) x.a x.b μ) W hA I1 I2 hF hB (by omega) (by omega) (fun σ1 g=>rMove_to (k+7) (by omega) g W.P W.h.sh (by omega) x.a x.b)
    obtain ⟨_,m1,m2,m3,m4,m5,m6⟩:=ldq σ1 (s1 _ hlt hoff)
    have eB':d_ref02_Heap_Move (k+12) (rptr j) x.a x.b σ1=_:=eB
    have kp:∀ {ρ:Type} (y:Option ρ),keepP (some ⟨σ.length,0,none⟩) μ σ1 y=y:=fun y=>keep_full (s1 _ hlt hoff) y
    refine ⟨σ2,j',t', ?_,W2,apart a2⟩
    simp only[c1 6 q6,cond_true,l1,l2,Option.bind_some,eA,toI_int,kp,m1,m2,eB',beq_self_eq_true]
  simp only[c0 6 q6,cond_false]
  by_cases q7:x.k=7
  · have hd:doR m x=setRefR m x.a x.b x.c:=by unfold doR; simp[q7]
    rw[hd] at I1 I2 b2 hF hB hfw ⊢
    have hA:=SetRef_goes (k+5) W.h W.g.inv x.a x.b x.c h2 h4
    obtain ⟨σ1,σ2,j',t',eA,eB,W2,a2,s1⟩:=play_step (A:=d_heap_Heap_SetRef (k+12) (hptr i) x.a x.b x.c μ) (B:=fun μ=>d_ref02_Heap_SetRef (k+12) (rptr j) x.a x.b x.c μ) W hA I1 I2 hF hB (by omega) (by omega) (fun σ1 g=>rSetRef_to (k+8) (by omega) g W.P x.a x.b x.c)
    obtain ⟨_,m1,m2,m3,m4,m5,m6⟩:=ldq σ1 (s1 _ hlt hoff)
    have eB':d_ref02_Heap_SetRef (k+12) (rptr j) x.a x.b x.c σ1=_:=eB
    have kp:∀ {ρ:Type} (y:Option ρ),keepP (some ⟨σ.length,0,none⟩) μ σ1 y=y:=fun y=>keep_full (s1 _ hlt hoff) y
    refine ⟨σ2,j',t', ?_,W2,apart a2⟩
    simp only[c1 7 q7,cond_true,l1,l2,l3,Option.bind_some,eA,toI_int,kp,m1,m2,m3,eB',beq_self_eq_true]
  simp only[c0 7 q7,cond_false]
  by_cases q8:x.k=8
  · have hd:doR m x=setDataR m x.a x.b x.c:=by unfold doR; simp[q8]
    rw[hd] at I1 I2 b2 hF hB hfw ⊢
    have hA:=SetData_goes (k+5) W.h W.g.inv x.a x.b x.c h2 h4
    obtain ⟨σ1,σ2,j',t',eA,eB,W2,a2,s1⟩:=play_step (A:=d_heap_Heap_SetData (k+12) (hptr i) x.a x.b x.c μ) (B:=fun μ=>d_ref02_Heap_SetData (k+12) (rptr j) x.a x.b x.c μ) W hA I1 I2 hF hB (by omega) (by omega) (fun σ1 g=>rSetData_to (k+8) (by omega) g W.P x.a x.b x.c)
    obtain ⟨_,m1,m2,m3,m4,m5,m6⟩:=ldq σ1 (s1 _ hlt hoff)
    have eB':d_ref02_Heap_SetData (k+12) (rptr j) x.a x.b x.c σ1=_:=eB
    have kp:∀ {ρ:Type} (y:Option ρ),keepP (some ⟨σ.length,0,none⟩) μ σ1 y=y:=fun y=>keep_full (s1 _ hlt hoff) y
    refine ⟨σ2,j',t', ?_,W2,apart a2⟩
    simp only[c1 8 q8,cond_true,l1,l2,l3,Option.bind_some,eA,toI_int,kp,m1,m2,m3,eB',beq_self_eq_true]
  simp only[c0 8 q8,cond_false]
  by_cases q9:x.k=9
  · have hd:doR m x=pokeR m x.a x.b:=by unfold doR; simp[q9]
    rw[hd] at I1 I2 b2 hF hB hfw ⊢
    have hA:=Poke_goes (k+1) (by omega) W.h W.g.inv x.a x.b h3
    obtain ⟨σ1,σ2,j',t',eA,eB,W2,a2,s1⟩:=play_step (A:=d_heap_Heap_Poke (k+12) (hptr i) x.a x.b μ) (B:=fun μ=>d_ref02_Heap_Poke (k+12) (rptr j) x.a x.b μ) W hA I1 I2 hF hB (by omega) (by omega) (fun σ1 g=>rPoke_to (k+8) (by omega) g W.P x.a x.b)
    obtain ⟨_,m1,m2,m3,m4,m5,m6⟩:=ldq σ1 (s1 _ hlt hoff)
    have eB':d_ref02_Heap_Poke (k+12) (rptr j) x.a x.b σ1=_:=eB
    have kp:∀ {ρ:Type} (y:Option ρ),keepP (some ⟨σ.length,0,none⟩) μ σ1 y=y:=fun y=>keep_full (s1 _ hlt hoff) y
    refine ⟨σ2,j',t', ?_,W2,apart a2⟩
    simp only[c1 9 q9,cond_true,l1,l2,Option.bind_some,eA,toI_int,kp,m1,m2,eB',beq_self_eq_true]
  simp only[c0 9 q9,cond_false]
  by_cases q10:x.k=10
  · have hd:doR m x=pinR m x.a 1:=by unfold doR; simp[q10]
    rw[hd] at I1 I2 b2 hF hB hfw ⊢
    have hA:=Pin_goes (k+1) W.h x.a h2
    obtain ⟨σ1,σ2,j',t',eA,eB,W2,a2,s1⟩:=play_step (A:=d_heap_Heap_Pin (k+12) (hptr i) x.a μ) (B:=fun μ=>d_ref02_Heap_Pin (k+12) (rptr j) x.a μ) W hA I1 I2 hF hB (by omega) (by omega) (fun σ1 g=>rPin_to (k+7) (by omega) g W.P W.h.sh x.a)
    obtain ⟨_,m1,m2,m3,m4,m5,m6⟩:=ldq σ1 (s1 _ hlt hoff)
    have eB':d_ref02_Heap_Pin (k+12) (rptr j) x.a σ1=_:=eB
    have kp:∀ {ρ:Type} (y:Option ρ),keepP (some ⟨σ.length,0,none⟩) μ σ1 y=y:=fun y=>keep_full (s1 _ hlt hoff) y
    refine ⟨σ2,j',t', ?_,W2,apart a2⟩
    simp only[c1 10 q10,cond_true,l1,Option.bind_some,eA,toI_int,kp,m1,eB',beq_self_eq_true]
  simp only[c0 10 q10,cond_false]
  by_cases q11:x.k=11
  · have hd:doR m x=pinR m x.a 0:=by unfold doR; simp[q11]
    rw[hd] at I1 I2 b2 hF hB hfw ⊢
    have hA:=Unpin_goes (k+1) W.h x.a h2
    obtain ⟨σ1,σ2,j',t',eA,eB,W2,a2,s1⟩:=play_step (A:=d_heap_Heap_Unpin (k+12) (hptr i) x.a μ) (B:=fun μ=>d_ref02_Heap_Unpin (k+12) (rptr j) x.a μ) W hA I1 I2 hF hB (by omega) (by omega) (fun σ1 g=>rUnpin_to (k+7) (by omega) g W.P W.h.sh x.a)
    obtain ⟨_,m1,m2,m3,m4,m5,m6⟩:=ldq σ1 (s1 _ hlt hoff)
    have eB':d_ref02_Heap_Unpin (k+12) (rptr j) x.a σ1=_:=eB
    have kp:∀ {ρ:Type} (y:Option ρ),keepP (some ⟨σ.length,0,none⟩) μ σ1 y=y:=fun y=>keep_full (s1 _ hlt hoff) y
    refine ⟨σ2,j',t', ?_,W2,apart a2⟩
    simp only[c1 11 q11,cond_true,l1,Option.bind_some,eA,toI_int,kp,m1,eB',beq_self_eq_true]
  simp only[c0 11 q11,cond_false]
  by_cases q12:x.k=12
  · have hd:doR m x=(0,{ m with fw:=[] }):=by unfold doR; simp[q12]
    rw[hd] at I1 I2 b2 hF hB hfw ⊢
    obtain ⟨e,g1,g2⟩:=Forget_to (k+10) W.h
    obtain ⟨σ1,σ2,j',t',eA,eB,W2,a2,s1⟩:=play_step (A:=d_heap_Heap_Forget (k+12) (hptr i) μ) (B:=fun μ=>d_ref02_Heap_Forget (k+12) (rptr j) μ) W ⟨_,e,g1,g2⟩ I1 I2 hF hB (by show m.births≤1000; omega) (Nat.zero_le _) (fun σ1 g=>rForget_to (k+10) g W.P)
    have eB':d_ref02_Heap_Forget (k+12) (rptr j) σ1=_:=eB
    refine ⟨σ2,j',t', ?_,W2,apart a2⟩
    simp only[c1 12 q12,cond_true,Option.bind_some,eA,toI_int,eB',beq_self_eq_true]
  simp only[c0 12 q12,cond_false]
  have hd:doR m x=(0,m):=by
    unfold doR
    rw[if_neg q0,if_neg q1,if_neg q2,if_neg q3,if_neg q4,if_neg q5,if_neg q6,if_neg q7,if_neg q8,if_neg q9,if_neg q10,if_neg q11,if_neg q12]
  rw[hd]
  exact ⟨μ,j,t,rfl,W,apart ⟨Nat.le_refl _,fun _ _ _ _=>rfl,fun _ h=>.inl h,rfl⟩⟩
end
section
open Go Go.AX
noncomputable local instance qSN:Quiet:=fullQuiet
local instance nSN:Kn:=⟨true⟩
def NoH (σ:AMem) (p:Option Addr):Prop:=
  p=none ∨ ∃ h T rw,p=some ⟨h,0,none⟩∧σ[h]?=some (.cells [.slice none 0 0,.slice none 0 0,.pointer none,.pointer none,.map none,.map none,.int .i64 0] T rw)
theorem NoH.app {σ:AMem} {p:Option Addr} (h:NoH σ p) (τ:AMem):NoH (σ++τ) p:=by
  rcases h with h | ⟨b,T,rw,h1,h2⟩
  · exact .inl h
  · refine .inr ⟨b,T,rw,h1, ?_⟩
    rw[List.getElem?_append_left (List.getElem?_eq_some_iff.1 h2).1]; exact h2
theorem made_no {σ:AMem} {p:Option Addr} (h:NoH σ p) (k:Nat):d_heap_Heap_made (k+1) p σ=some (.bool false,σ):=by
  rcases h with rfl | ⟨b,T,rw,rfl,h2⟩
  · rw[d_heap_Heap_made_eq,b_heap_Heap_made]
    have e:eqA P pt_heap_Heap (.pointer none) (.pointer none)=some true:=by kernel_rfl
    rw[e]; rfl
  · rw[d_heap_Heap_made_eq,b_heap_Heap_made]
    have e:eqA P pt_heap_Heap (.pointer (some ⟨b,0,none⟩)) (.pointer none)=some false:=by kernel_rfl
    rw[e]
    simp[ldS,ld1,h2,toS]
theorem five_ne:((5:Int) != 0)=true:=rfl
theorem four_ne:((4:Int) != 0)=true:=rfl
theorem neg_ge:decide ((-1:Int)≥0)=false:=rfl
theorem toS_nil:toS (.slice none 0 0)=some (none,0,0):=rfl
theorem stN_new (σ:AMem) (cs vs:List Value) (T:TypeId) (h:vs.length=cs.length):stN (σ++[.cells cs T true]) σ.length 0 vs=some (σ++[.cells vs T true]):=by
  simp[stN,setRange,h]
theorem ldN_new (σ:AMem) (vs:List Value) (T:TypeId) (rw:Bool) (n:Nat) (h:vs.length=n):ldN (σ++[.cells vs T rw]) σ.length 0 n=some vs:=by
  simp[ldN,← h]
theorem heap_Heap_object_no {σ:AMem} {p:Option Addr} (h:NoH σ p) (k:Nat) (x1:Int):d_heap_Heap_object (k+2) p x1 σ=some ((.int .i64 5),σ):=by
  rw[d_heap_Heap_object_eq,b_heap_Heap_object]
  simp only[made_no (h.app _),made_no h,Option.bind_some,toB_bool,toI_int,Bool.not_false,Bool.not_true,cond_true,cond_false,five_ne,four_ne,r_ii_eq,neg_ge,toS_nil]
theorem heap_Heap_field_no {σ:AMem} {p:Option Addr} (h:NoH σ p) (k:Nat) (x1:Int) (x2:Int) (x3:Bool):d_heap_Heap_field (k+3) p x1 x2 x3 σ=some ((.tuple #[.int .i64 0,.int .i64 5]),σ):=by
  rw[d_heap_Heap_field_eq,b_heap_Heap_field]
  simp only[heap_Heap_object_no (h.app _),heap_Heap_object_no h,made_no (h.app _),made_no h,Option.bind_some,toB_bool,toI_int,Bool.not_false,Bool.not_true,cond_true,cond_false,five_ne,four_ne,r_ii_eq,neg_ge,toS_nil]
theorem heap_Heap_Word_no {σ:AMem} {p:Option Addr} (h:NoH σ p) (k:Nat) (x1:Int):d_heap_Heap_Word (k+2) p x1 σ=some ((.tuple #[.int .i64 0,.int .i64 5]),σ):=by
  rw[d_heap_Heap_Word_eq,b_heap_Heap_Word]
  simp only[made_no (h.app _),made_no h,Option.bind_some,toB_bool,toI_int,Bool.not_false,Bool.not_true,cond_true,cond_false,five_ne,four_ne,r_ii_eq,neg_ge,toS_nil]
theorem heap_Heap_Find_no {σ:AMem} {p:Option Addr} (h:NoH σ p) (k:Nat) (x1:Int):d_heap_Heap_Find (k+2) p x1 σ=some ((.tuple #[.int .i64 0,.int .i64 5]),σ):=by
  rw[d_heap_Heap_Find_eq,b_heap_Heap_Find]
  simp only[made_no (h.app _),made_no h,Option.bind_some,toB_bool,toI_int,Bool.not_false,Bool.not_true,cond_true,cond_false,five_ne,four_ne,r_ii_eq,neg_ge,toS_nil]
theorem heap_Heap_Has_no {σ:AMem} {p:Option Addr} (h:NoH σ p) (k:Nat) (x1:Int):d_heap_Heap_Has (k+2) p x1 σ=some ((.bool false),σ):=by
  rw[d_heap_Heap_Has_eq,b_heap_Heap_Has]
  simp only[made_no (h.app _),made_no h,Option.bind_some,toB_bool,toI_int,Bool.not_false,Bool.not_true,cond_true,cond_false,five_ne,four_ne,r_ii_eq,neg_ge,toS_nil]
theorem heap_Heap_Pinned_no {σ:AMem} {p:Option Addr} (h:NoH σ p) (k:Nat) (x1:Int):d_heap_Heap_Pinned (k+3) p x1 σ=some ((.bool false),σ):=by
  rw[d_heap_Heap_Pinned_eq,b_heap_Heap_Pinned]
  simp only[heap_Heap_Has_no (h.app _),heap_Heap_Has_no h,made_no (h.app _),made_no h,Option.bind_some,toB_bool,toI_int,Bool.not_false,Bool.not_true,cond_true,cond_false,five_ne,four_ne,r_ii_eq,neg_ge,toS_nil]
theorem heap_Heap_Forward_no {σ:AMem} {p:Option Addr} (h:NoH σ p) (k:Nat) (x1:Int):d_heap_Heap_Forward (k+2) p x1 σ=some ((.tuple #[.int .i64 0,.int .i64 5]),σ):=by
  rw[d_heap_Heap_Forward_eq,b_heap_Heap_Forward]
  simp only[made_no (h.app _),made_no h,Option.bind_some,toB_bool,toI_int,Bool.not_false,Bool.not_true,cond_true,cond_false,five_ne,four_ne,r_ii_eq,neg_ge,toS_nil]
theorem heap_Heap_Ident_no {σ:AMem} {p:Option Addr} (h:NoH σ p) (k:Nat) (x1:Int):d_heap_Heap_Ident (k+3) p x1 σ=some ((.tuple #[.int .i64 0,.int .i64 5]),σ):=by
  rw[d_heap_Heap_Ident_eq,b_heap_Heap_Ident]
  simp only[heap_Heap_object_no (h.app _),heap_Heap_object_no h,made_no (h.app _),made_no h,Option.bind_some,toB_bool,toI_int,Bool.not_false,Bool.not_true,cond_true,cond_false,five_ne,four_ne,r_ii_eq,neg_ge,toS_nil]
theorem heap_Heap_Shape_no {σ:AMem} {p:Option Addr} (h:NoH σ p) (k:Nat) (x1:Int):Adds (d_heap_Heap_Shape (k+3) p x1 σ) σ (.tuple #[.agg #[.int .i64 0,.int .i64 0,.int .i64 0],.int .i64 5]):=by
  unfold Adds
  rw[d_heap_Heap_Shape_eq,b_heap_Heap_Shape]
  simp only[allocK,List.append_assoc,heap_Heap_object_no (h.app _),heap_Heap_object_no h,made_no (h.app _),made_no h,Option.bind_some,toB_bool,toI_int,Bool.not_false,Bool.not_true,cond_true,cond_false,five_ne,four_ne,r_ii_eq,neg_ge,toS_nil]
  rw[stN_new _ _ _ _ rfl]
  simp only[Option.bind_some]
  rw[ldN_new _ _ _ _ 3 rfl]
  exact ⟨_,rfl⟩
theorem heap_Heap_Ref_no {σ:AMem} {p:Option Addr} (h:NoH σ p) (k:Nat) (x1:Int) (x2:Int):d_heap_Heap_Ref (k+4) p x1 x2 σ=some ((.tuple #[.int .i64 0,.int .i64 5]),σ):=by
  rw[d_heap_Heap_Ref_eq,b_heap_Heap_Ref]
  simp only[heap_Heap_field_no (h.app _),heap_Heap_field_no h,made_no (h.app _),made_no h,Option.bind_some,toB_bool,toI_int,Bool.not_false,Bool.not_true,cond_true,cond_false,five_ne,four_ne,r_ii_eq,neg_ge,toS_nil]
theorem heap_Heap_Data_no {σ:AMem} {p:Option Addr} (h:NoH σ p) (k:Nat) (x1:Int) (x2:Int):d_heap_Heap_Data (k+4) p x1 x2 σ=some ((.tuple #[.int .i64 0,.int .i64 5]),σ):=by
  rw[d_heap_Heap_Data_eq,b_heap_Heap_Data]
  simp only[heap_Heap_field_no (h.app _),heap_Heap_field_no h,made_no (h.app _),made_no h,Option.bind_some,toB_bool,toI_int,Bool.not_false,Bool.not_true,cond_true,cond_false,five_ne,four_ne,r_ii_eq,neg_ge,toS_nil]
theorem heap_Heap_Blocks_no {σ:AMem} {p:Option Addr} (h:NoH σ p) (k:Nat)  : d_heap_Heap_Blocks (k+2) p  σ=some ((.int .i64 0),σ):=by
  rw[d_heap_Heap_Blocks_eq,b_heap_Heap_Blocks]
  simp only[made_no (h.app _),made_no h,Option.bind_some,toB_bool,toI_int,Bool.not_false,Bool.not_true,cond_true,cond_false,five_ne,four_ne,r_ii_eq,neg_ge,toS_nil]
theorem heap_Heap_State_no {σ:AMem} {p:Option Addr} (h:NoH σ p) (k:Nat) (x1:Int):d_heap_Heap_State (k+3) p x1 σ=some ((.int .i64 (-1)),σ):=by
  rw[d_heap_Heap_State_eq,b_heap_Heap_State]
  simp only[heap_Heap_Blocks_no (h.app _),heap_Heap_Blocks_no h,made_no (h.app _),made_no h,Option.bind_some,toB_bool,toI_int,Bool.not_false,Bool.not_true,cond_true,cond_false,five_ne,four_ne,r_ii_eq,neg_ge,toS_nil]
  by_cases hx:x1<0
  · simp only[decide_eq_true hx,cond_true,Option.bind_some]
  · simp only[decide_eq_false hx,decide_eq_true (Int.not_lt.1 hx),cond_true,cond_false,Option.bind_some,ge_iff_le]
theorem heap_Heap_Space_no {σ:AMem} {p:Option Addr} (h:NoH σ p) (k:Nat) (x1:Int):d_heap_Heap_Space (k+3) p x1 σ=some ((.int .i64 (-1)),σ):=by
  rw[d_heap_Heap_Space_eq,b_heap_Heap_Space]
  simp only[heap_Heap_Blocks_no (h.app _),heap_Heap_Blocks_no h,made_no (h.app _),made_no h,Option.bind_some,toB_bool,toI_int,Bool.not_false,Bool.not_true,cond_true,cond_false,five_ne,four_ne,r_ii_eq,neg_ge,toS_nil]
  by_cases hx:x1<0
  · simp only[decide_eq_true hx,cond_true,Option.bind_some]
  · simp only[decide_eq_false hx,decide_eq_true (Int.not_lt.1 hx),cond_true,cond_false,Option.bind_some,ge_iff_le]
theorem heap_Heap_there_no {σ:AMem} {p:Option Addr} (h:NoH σ p) (k:Nat) (x1:Int):d_heap_Heap_there (k+2) p x1 σ=some ((.bool false),σ):=by
  rw[d_heap_Heap_there_eq,b_heap_Heap_there]
  simp only[made_no (h.app _),made_no h,Option.bind_some,toB_bool,toI_int,Bool.not_false,Bool.not_true,cond_true,cond_false,five_ne,four_ne,r_ii_eq,neg_ge,toS_nil]
theorem heap_Heap_used_no {σ:AMem} {p:Option Addr} (h:NoH σ p) (k:Nat) (x1:Int):d_heap_Heap_used (k+3) p x1 σ=some ((.bool false),σ):=by
  rw[d_heap_Heap_used_eq,b_heap_Heap_used]
  simp only[heap_Heap_there_no (h.app _),heap_Heap_there_no h,made_no (h.app _),made_no h,Option.bind_some,toB_bool,toI_int,Bool.not_false,Bool.not_true,cond_true,cond_false,five_ne,four_ne,r_ii_eq,neg_ge,toS_nil]
theorem heap_Heap_Objects_no {σ:AMem} {p:Option Addr} (h:NoH σ p) (k:Nat) (x1:Int):d_heap_Heap_Objects (k+2) p x1 σ=some ((.slice none 0 0),σ):=by
  rw[d_heap_Heap_Objects_eq,b_heap_Heap_Objects]
  simp only[made_no (h.app _),made_no h,Option.bind_some,toB_bool,toI_int,Bool.not_false,Bool.not_true,cond_true,cond_false,five_ne,four_ne,r_ii_eq,neg_ge,toS_nil]
theorem heap_Heap_All_no {σ:AMem} {p:Option Addr} (h:NoH σ p) (k:Nat)  : d_heap_Heap_All (k+2) p  σ=some ((.slice none 0 0),σ):=by
  rw[d_heap_Heap_All_eq,b_heap_Heap_All]
  simp only[made_no (h.app _),made_no h,Option.bind_some,toB_bool,toI_int,Bool.not_false,Bool.not_true,cond_true,cond_false,five_ne,four_ne,r_ii_eq,neg_ge,toS_nil]
theorem heap_Heap_Gaps_no {σ:AMem} {p:Option Addr} (h:NoH σ p) (k:Nat) (x1:Int):d_heap_Heap_Gaps (k+4) p x1 σ=some ((.slice none 0 0),σ):=by
  rw[d_heap_Heap_Gaps_eq,b_heap_Heap_Gaps]
  simp only[heap_Heap_used_no (h.app _),heap_Heap_used_no h,heap_Heap_Objects_no (h.app _),heap_Heap_Objects_no h,made_no (h.app _),made_no h,Option.bind_some,toB_bool,toI_int,Bool.not_false,Bool.not_true,cond_true,cond_false,five_ne,four_ne,r_ii_eq,neg_ge,toS_nil]
theorem heap_Heap_Lines_no {σ:AMem} {p:Option Addr} (h:NoH σ p) (k:Nat) (x1:Int):d_heap_Heap_Lines (k+4) p x1 σ=some ((.slice none 0 0),σ):=by
  rw[d_heap_Heap_Lines_eq,b_heap_Heap_Lines]
  simp only[heap_Heap_used_no (h.app _),heap_Heap_used_no h,heap_Heap_Objects_no (h.app _),heap_Heap_Objects_no h,made_no (h.app _),made_no h,Option.bind_some,toB_bool,toI_int,Bool.not_false,Bool.not_true,cond_true,cond_false,five_ne,four_ne,r_ii_eq,neg_ge,toS_nil]
theorem heap_Heap_Births_no {σ:AMem} {p:Option Addr} (h:NoH σ p) (k:Nat)  : d_heap_Heap_Births (k+2) p  σ=some ((.int .i64 0),σ):=by
  rw[d_heap_Heap_Births_eq,b_heap_Heap_Births]
  simp only[made_no (h.app _),made_no h,Option.bind_some,toB_bool,toI_int,Bool.not_false,Bool.not_true,cond_true,cond_false,five_ne,four_ne,r_ii_eq,neg_ge,toS_nil]
theorem heap_Heap_Used_no {σ:AMem} {p:Option Addr} (h:NoH σ p) (k:Nat)  : d_heap_Heap_Used (k+3) p  σ=some ((.int .i64 0),σ):=by
  rw[d_heap_Heap_Used_eq,b_heap_Heap_Used]
  simp only[heap_Heap_All_no (h.app _),heap_Heap_All_no h,made_no (h.app _),made_no h,Option.bind_some,toB_bool,toI_int,Bool.not_false,Bool.not_true,cond_true,cond_false,five_ne,four_ne,r_ii_eq,neg_ge,toS_nil]
  rw[d_heap_Heap_Used_l0_eq,b_heap_Heap_Used_l0]
  rfl
theorem ref02_Heap_Made_no {σ:AMem} (k:Nat)  : d_ref02_Heap_Made (k+1) none  σ=some ((.bool false),σ):=by
  rw[d_ref02_Heap_Made_eq,b_ref02_Heap_Made]
  kernel_rfl
theorem ref02_Heap_lacks_no {σ:AMem} (k:Nat) (x1:Int):d_ref02_Heap_lacks (k+2) none x1 σ=some ((.int .i64 5),σ):=by
  rw[d_ref02_Heap_lacks_eq,b_ref02_Heap_lacks]
  simp only[ref02_Heap_Made_no,Option.bind_some,toB_bool,toI_int,Bool.not_false,Bool.not_true,cond_true,cond_false,five_ne,four_ne,r_ii_eq,neg_ge,toS_nil]
theorem ref02_Heap_Index_no {σ:AMem} (k:Nat) (x1:Int):d_ref02_Heap_Index (k+2) none x1 σ=some ((.int .i64 (-1)),σ):=by
  rw[d_ref02_Heap_Index_eq,b_ref02_Heap_Index]
  simp only[ref02_Heap_Made_no,Option.bind_some,toB_bool,toI_int,Bool.not_false,Bool.not_true,cond_true,cond_false,five_ne,four_ne,r_ii_eq,neg_ge,toS_nil]
theorem ref02_Heap_Word_no {σ:AMem} (k:Nat) (x1:Int):d_ref02_Heap_Word (k+3) none x1 σ=some ((.tuple #[.int .i64 0,.int .i64 5]),σ):=by
  rw[d_ref02_Heap_Word_eq,b_ref02_Heap_Word]
  simp only[ref02_Heap_Made_no,ref02_Heap_Index_no,Option.bind_some,toB_bool,toI_int,Bool.not_false,Bool.not_true,cond_true,cond_false,five_ne,four_ne,r_ii_eq,neg_ge,toS_nil]
theorem ref02_Heap_Has_no {σ:AMem} (k:Nat) (x1:Int):d_ref02_Heap_Has (k+3) none x1 σ=some ((.bool false),σ):=by
  rw[d_ref02_Heap_Has_eq,b_ref02_Heap_Has]
  simp only[ref02_Heap_Index_no,Option.bind_some,toB_bool,toI_int,Bool.not_false,Bool.not_true,cond_true,cond_false,five_ne,four_ne,r_ii_eq,neg_ge,toS_nil]
theorem ref02_Heap_Pinned_no {σ:AMem} (k:Nat) (x1:Int):d_ref02_Heap_Pinned (k+3) none x1 σ=some ((.bool false),σ):=by
  rw[d_ref02_Heap_Pinned_eq,b_ref02_Heap_Pinned]
  simp only[ref02_Heap_Index_no,Option.bind_some,toB_bool,toI_int,Bool.not_false,Bool.not_true,cond_true,cond_false,five_ne,four_ne,r_ii_eq,neg_ge,toS_nil]
theorem ref02_Heap_Find_no {σ:AMem} (k:Nat) (x1:Int):d_ref02_Heap_Find (k+2) none x1 σ=some ((.tuple #[.int .i64 0,.int .i64 5]),σ):=by
  rw[d_ref02_Heap_Find_eq,b_ref02_Heap_Find]
  simp only[ref02_Heap_Made_no,Option.bind_some,toB_bool,toI_int,Bool.not_false,Bool.not_true,cond_true,cond_false,five_ne,four_ne,r_ii_eq,neg_ge,toS_nil]
theorem ref02_Heap_Forward_no {σ:AMem} (k:Nat) (x1:Int):d_ref02_Heap_Forward (k+2) none x1 σ=some ((.tuple #[.int .i64 0,.int .i64 5]),σ):=by
  rw[d_ref02_Heap_Forward_eq,b_ref02_Heap_Forward]
  simp only[ref02_Heap_Made_no,Option.bind_some,toB_bool,toI_int,Bool.not_false,Bool.not_true,cond_true,cond_false,five_ne,four_ne,r_ii_eq,neg_ge,toS_nil]
theorem ref02_Heap_Ident_no {σ:AMem} (k:Nat) (x1:Int):d_ref02_Heap_Ident (k+3) none x1 σ=some ((.tuple #[.int .i64 0,.int .i64 5]),σ):=by
  rw[d_ref02_Heap_Ident_eq,b_ref02_Heap_Ident]
  simp only[ref02_Heap_lacks_no,ref02_Heap_Index_no,Option.bind_some,toB_bool,toI_int,Bool.not_false,Bool.not_true,cond_true,cond_false,five_ne,four_ne,r_ii_eq,neg_ge,toS_nil]
theorem ref02_Heap_Shape_no {σ:AMem} (k:Nat) (x1:Int):Adds (d_ref02_Heap_Shape (k+3) none x1 σ) σ (.tuple #[.agg #[.int .i64 0,.int .i64 0,.int .i64 0],.int .i64 5]):=by
  unfold Adds
  rw[d_ref02_Heap_Shape_eq,b_ref02_Heap_Shape]
  simp only[allocK,List.append_assoc,ref02_Heap_lacks_no,ref02_Heap_Index_no,Option.bind_some,toB_bool,toI_int,Bool.not_false,Bool.not_true,cond_true,cond_false,five_ne,four_ne,r_ii_eq,neg_ge,toS_nil]
  rw[stN_new _ _ _ _ rfl]
  simp only[Option.bind_some]
  rw[ldN_new _ _ _ _ 3 rfl]
  exact ⟨_,rfl⟩
theorem ref02_Heap_Ref_no {σ:AMem} (k:Nat) (x1:Int) (x2:Int):d_ref02_Heap_Ref (k+3) none x1 x2 σ=some ((.tuple #[.int .i64 0,.int .i64 5]),σ):=by
  rw[d_ref02_Heap_Ref_eq,b_ref02_Heap_Ref]
  simp only[ref02_Heap_lacks_no,ref02_Heap_Index_no,Option.bind_some,toB_bool,toI_int,Bool.not_false,Bool.not_true,cond_true,cond_false,five_ne,four_ne,r_ii_eq,neg_ge,toS_nil]
theorem ref02_Heap_Data_no {σ:AMem} (k:Nat) (x1:Int) (x2:Int):d_ref02_Heap_Data (k+3) none x1 x2 σ=some ((.tuple #[.int .i64 0,.int .i64 5]),σ):=by
  rw[d_ref02_Heap_Data_eq,b_ref02_Heap_Data]
  simp only[ref02_Heap_lacks_no,ref02_Heap_Index_no,Option.bind_some,toB_bool,toI_int,Bool.not_false,Bool.not_true,cond_true,cond_false,five_ne,four_ne,r_ii_eq,neg_ge,toS_nil]
end
section
set_option maxRecDepth 10000
open Go Go.AX
noncomputable local instance qSNL:Quiet:=fullQuiet
local instance nSNL:Kn:=⟨true⟩
theorem bne0 (n:Int):(n != n)=false:=by simp
theorem toT_mk (l:List Value):toT (.tuple l.toArray)=some l:=rfl
theorem Looks_l0_no {σ:AMem} {p:Option Addr} (h:NoH σ p) (k n:Nat) (x:Int) (b:Nat) (hl:ldI .i64 σ b (0+0)=some 0):d_law02_Looks_l0 (k+4) (n+3) p none x b (-1) σ=some (.exit 0,[],σ):=by
  have e1:w64 (-1+1)=0:=by rfl
  have e2:w64 (0+1)=1:=by rfl
  rw[d_law02_Looks_l0_eq,b_law02_Looks_l0]
  simp only[hl,Option.bind_some,heap_Heap_Ref_no h,ref02_Heap_Ref_no,r_ii_eq,bne0,cond_false,cond_true,show decide ((-1:Int)≤0)=true from rfl,e1]
  rw[d_law02_Looks_l0_eq,b_law02_Looks_l0]
  simp only[hl,Option.bind_some,heap_Heap_Ref_no h,ref02_Heap_Ref_no,r_ii_eq,bne0,cond_false,cond_true,show decide ((0:Int)≤0)=true from rfl,e2]
  rw[d_law02_Looks_l0_eq,b_law02_Looks_l0]
  simp only[hl,Option.bind_some,cond_false,show decide ((1:Int)≤0)=false from rfl]
theorem Looks_l1_no {σ:AMem} {p:Option Addr} (h:NoH σ p) (k n:Nat) (x:Int) (b:Nat) (hl:ldI .i64 σ b (0+1)=some 0):d_law02_Looks_l1 (k+4) (n+3) p none x b (-1) σ=some (.exit 2,[],σ):=by
  have e1:w64 (-1+1)=0:=by rfl
  have e2:w64 (0+1)=1:=by rfl
  rw[d_law02_Looks_l1_eq,b_law02_Looks_l1]
  simp only[hl,Option.bind_some,heap_Heap_Data_no h,ref02_Heap_Data_no,r_ii_eq,bne0,cond_false,cond_true,show decide ((-1:Int)≤0)=true from rfl,e1]
  rw[d_law02_Looks_l1_eq,b_law02_Looks_l1]
  simp only[hl,Option.bind_some,heap_Heap_Data_no h,ref02_Heap_Data_no,r_ii_eq,bne0,cond_false,cond_true,show decide ((0:Int)≤0)=true from rfl,e2]
  rw[d_law02_Looks_l1_eq,b_law02_Looks_l1]
  simp only[hl,Option.bind_some,cond_false,show decide ((1:Int)≤0)=false from rfl]
theorem Looks_no {σ:AMem} {p:Option Addr} (h:NoH σ p) (k:Nat) (x:Int):Adds (d_law02_Looks (k+8) p none x σ) σ (.bool true):=by
  unfold Adds
  rw[d_law02_Looks_eq,b_law02_Looks]
  simp only[heap_Heap_Word_no h,ref02_Heap_Word_no,heap_Heap_Has_no h,ref02_Heap_Has_no,heap_Heap_Pinned_no h,ref02_Heap_Pinned_no,heap_Heap_Find_no h,ref02_Heap_Find_no,heap_Heap_Forward_no h,ref02_Heap_Forward_no,
    heap_Heap_Ident_no h,ref02_Heap_Ident_no,Option.bind_some,r_ii_eq,toB_bool,bne0,cond_false,cond_true,BEq.rfl,Bool.not_true]
  obtain ⟨τ1,e1⟩:=heap_Heap_Shape_no h (k+4) x
  rw[e1]
  have h1:=h.app τ1
  generalize hσ1:σ++τ1=σ1 at h1 ⊢
  simp only[Option.bind_some,toT_mk,List.length_cons,List.length_nil,Nat.reduceAdd,if_true,List.head?_cons,List.tail_cons,a_iii_eq,toI_int,allocK]
  rw[stN_new _ _ _ _ rfl]
  simp only[Option.bind_some]
  obtain ⟨τ2,e2⟩:=ref02_Heap_Shape_no (σ:=σ1++[AObj.cells [.int .i64 0,.int .i64 0,.int .i64 0] 33 true]) (k+4) x
  rw[e2]
  simp only[Option.bind_some,toT_mk,List.length_cons,List.length_nil,Nat.reduceAdd,if_true,List.head?_cons,List.tail_cons,a_iii_eq,toI_int]
  rw[stN_new _ _ _ _ rfl]
  simp only[Option.bind_some,ldI_new]
  simp only[List.append_assoc,List.cons_append,List.nil_append,ldI_mid,List.getElem?_cons_zero,List.getElem?_cons_succ,Option.bind_some,toI_int]
  have e3:eqA P 33 (.agg #[.int .i64 0,.int .i64 0,.int .i64 0]) (.agg #[.int .i64 0,.int .i64 0,.int .i64 0])=some true:=by kernel_rfl
  rw[e3]
  simp only[Option.bind_some,Bool.not_true,cond_false,bne0]
  have hl:∀ o,ldI .i64 (σ1++AObj.cells [.int .i64 0,.int .i64 0,.int .i64 0] 33 true::(τ2++[AObj.cells [.int .i64 0,.int .i64 0,.int .i64 0] 33 true])) (σ1++AObj.cells [.int .i64 0,.int .i64 0,.int .i64 0] 33 true::τ2).length o=([Value.int .i64 0,.int .i64 0,.int .i64 0][o]?).bind (toI .i64):=by
    intro o
    rw[show σ1++AObj.cells [.int .i64 0,.int .i64 0,.int .i64 0] 33 true::(τ2++[AObj.cells [.int .i64 0,.int .i64 0,.int .i64 0] 33 true])=(σ1++AObj.cells [.int .i64 0,.int .i64 0,.int .i64 0] 33 true::τ2)++[AObj.cells [.int .i64 0,.int .i64 0,.int .i64 0] 33 true] by simp,ldI_new]
  rw[Looks_l0_no (h1.app _) (k+3) (k+4) x _ (hl 0)]
  simp only[Option.bind_some,if_true]
  rw[Looks_l1_no (h1.app _) (k+3) (k+4) x _ (hl 1)]
  simp only[Option.bind_some,if_true]
  rw[← hσ1]
  simp only[List.append_assoc]
  exact ⟨_,rfl⟩
end
section
set_option maxRecDepth 10000
open Go Go.AX
noncomputable local instance qST:Quiet:=fullQuiet
local instance nST:Kn:=⟨true⟩
variable {σ:AMem}
theorem noN (σ:AMem):NoH σ none:=.inl rfl
theorem rn_Blocks (k:Nat):d_ref02_Heap_Blocks (k+2) none σ=some (.int .i64 0,σ):=by
  rw[d_ref02_Heap_Blocks_eq,b_ref02_Heap_Blocks]; simp only[ref02_Heap_Made_no,Option.bind_some,toB_bool,Bool.not_false,cond_true]
theorem rn_Births (k:Nat):d_ref02_Heap_Births (k+2) none σ=some (.int .i64 0,σ):=by
  rw[d_ref02_Heap_Births_eq,b_ref02_Heap_Births]; simp only[ref02_Heap_Made_no,Option.bind_some,toB_bool,Bool.not_false,cond_true]
theorem rn_State (k:Nat) (b:Int):d_ref02_Heap_State (k+2) none b σ=some (.int .i64 (-1),σ):=by
  rw[d_ref02_Heap_State_eq,b_ref02_Heap_State]; simp only[ref02_Heap_Made_no,Option.bind_some,toB_bool,Bool.not_false,cond_true]
theorem rn_Space (k:Nat) (b:Int):d_ref02_Heap_Space (k+2) none b σ=some (.int .i64 (-1),σ):=by
  rw[d_ref02_Heap_Space_eq,b_ref02_Heap_Space]; simp only[ref02_Heap_Made_no,Option.bind_some,toB_bool,Bool.not_false,cond_true]
theorem rn_Objects (k:Nat) (b:Int):d_ref02_Heap_Objects (k+2) none b σ=some (.slice none 0 0,σ):=by
  rw[d_ref02_Heap_Objects_eq,b_ref02_Heap_Objects,d_ref02_Heap_Objects_l0_eq,b_ref02_Heap_Objects_l0]
  simp only[ref02_Heap_Made_no,Option.bind_some,toB_bool,cond_false,if_true]; rfl
theorem rn_All (k:Nat):d_ref02_Heap_All (k+2) none σ=some (.slice none 0 0,σ):=by
  rw[d_ref02_Heap_All_eq,b_ref02_Heap_All,d_ref02_Heap_All_l0_eq,b_ref02_Heap_All_l0]
  simp only[ref02_Heap_Made_no,Option.bind_some,toB_bool,cond_false,if_true]; rfl
theorem rn_Used (k:Nat):d_ref02_Heap_Used (k+2) none σ=some (.int .i64 0,σ):=by
  rw[d_ref02_Heap_Used_eq,b_ref02_Heap_Used,d_ref02_Heap_Used_l0_eq,b_ref02_Heap_Used_l0]
  simp only[ref02_Heap_Made_no,Option.bind_some,toB_bool,cond_false,if_true,u_i_eq]
theorem rn_Gaps (k:Nat) (b:Int):d_ref02_Heap_Gaps (k+3) none b σ=some (.slice none 0 0,σ):=by
  rw[d_ref02_Heap_Gaps_eq,b_ref02_Heap_Gaps]; simp only[rn_State,Option.bind_some,toI_int,show ((-1:Int) != 1)=true from rfl,cond_true]
theorem rn_Lines (k:Nat) (b:Int):d_ref02_Heap_Lines (k+3) none b σ=some (.slice none 0 0,σ):=by
  rw[d_ref02_Heap_Lines_eq,b_ref02_Heap_Lines]; simp only[rn_State,Option.bind_some,toI_int,show ((-1:Int) != 1)=true from rfl,cond_true]
theorem rn_At (k:Nat) (n:Int):d_ref02_Heap_At (k+2) none n σ=some (.tuple #[.int .i64 0,.int .i64 5],σ):=by
  rw[d_ref02_Heap_At_eq,b_ref02_Heap_At]; simp only[ref02_Heap_Made_no,Option.bind_some,toB_bool,Bool.not_false,cond_true]
theorem hn_At (k:Nat) (n:Int):d_heap_Heap_At (k+2) none n σ=some (.tuple #[.int .i64 0,.int .i64 5],σ):=by
  rw[d_heap_Heap_At_eq,b_heap_Heap_At]; simp only[made_no (noN σ),Option.bind_some,toB_bool,Bool.not_false,cond_true]
theorem ints_nil (k:Nat):d_law02_ints (k+2) (none,0,0) (none,0,0) σ=some (.bool true,σ):=
  ints_same (k+1) (s1:=(none,0,0)) (s2:=(none,0,0)) (l:=[]) (SlAt.nil _ _ _) (SlAt.nil _ _ _) (Nat.zero_le _) (Nat.zero_lt_succ _)
theorem runs_nil (k:Nat):d_ref01_SameRuns (k+2) (none,0,0) (none,0,0) σ=some (.bool true,σ):=
  runs_same (k+1) (s1:=(none,0,0)) (s2:=(none,0,0)) (l:=[]) (SlAt.nil _ _ _) (SlAt.nil _ _ _) (Nat.zero_le _) (Nat.zero_lt_succ _)
theorem bools_nil (k:Nat):d_law02_bools (k+2) (none,0,0) (none,0,0) σ=some (.bool true,σ):=
  bools_same (k+1) (s1:=(none,0,0)) (s2:=(none,0,0)) (l:=[]) (SlAt.nil _ _ _) (SlAt.nil _ _ _) (Nat.zero_le _) (Nat.zero_lt_succ _)
theorem n_l0 (k:Nat):∀ (n f:Nat) (x:Int) (σ:AMem),x+n=1 → -1≤x→n<f→d_law02_Same_l0 (k+11) f none none x σ=some (.exit 0,[],σ)
  | n,0,x,σ,hx,h1,hf=>by omega
  | 0,f+1,x,σ,hx,h1,hf=>by
    rw[d_law02_Same_l0_eq,b_law02_Same_l0]
    simp only[rn_Blocks,Option.bind_some,toI_int,decide_eq_false (show ¬ x≤0 by omega),cond_false]
  | n+1,f+1,x,σ,hx,h1,hf=>by
    have ih:=n_l0 k n f (x+1) σ (by omega) (by omega) (by omega)
    have w1:w64 (x+1)=x+1:=w64_in (by unfold inI; omega)
    rw[d_law02_Same_l0_eq,b_law02_Same_l0]
    simp only[rn_Blocks,Option.bind_some,toI_int,decide_eq_true (show x≤0 by omega),cond_true,heap_Heap_State_no (noN σ),rn_State,heap_Heap_Space_no (noN σ),rn_Space,heap_Heap_Objects_no (noN σ),rn_Objects,toS,ints_nil,heap_Heap_Gaps_no (noN σ),rn_Gaps,runs_nil,heap_Heap_Lines_no (noN σ),rn_Lines,bools_nil,bne_self_eq_false,cond_false,toB_bool,Bool.not_true,w1,ih]
theorem n_l1 (k:Nat):∀ (n f:Nat) (x:Int) (σ:AMem),x+n=1 → -1≤x→n<f → ∃ τ,d_law02_Same_l1 (k+11) f none none x σ=some (.exit 2,[],σ++τ)
  | n,0,x,σ,hx,h1,hf=>by omega
  | 0,f+1,x,σ,hx,h1,hf=>by
    rw[d_law02_Same_l1_eq,b_law02_Same_l1]
    exact ⟨[],by simp only[rn_Blocks,Option.bind_some,toI_int,show w64 ((0:Int)*64)=0 from rfl,decide_eq_false (show ¬ x≤0 by omega),cond_false,List.append_nil]⟩
  | n+1,f+1,x,σ,hx,h1,hf=>by
    obtain ⟨τ1,e1⟩:=Looks_no (noN σ) (k+3) x
    obtain ⟨τ2,ih⟩:=n_l1 k n f (x+1) (σ++τ1) (by omega) (by omega) (by omega)
    have w1:w64 (x+1)=x+1:=w64_in (by unfold inI; omega)
    refine ⟨τ1++τ2, ?_⟩
    rw[d_law02_Same_l1_eq,b_law02_Same_l1]
    simp only[rn_Blocks,Option.bind_some,toI_int,show w64 ((0:Int)*64)=0 from rfl,decide_eq_true (show x≤0 by omega),cond_true,show ((64:Int)=0)=False from by decide,if_false,rn_State,show ((-1:Int) == 0)=false from rfl,cond_false,e1,toB_bool,Bool.not_true,w1,ih]
    rw[List.append_assoc]
theorem n_l2 (k:Nat):∀ (n f:Nat) (x:Int) (σ:AMem),x+n=2 → -1≤x→n<f→d_law02_Same_l2 (k+11) f none none x σ=some (.exit 4,[],σ)
  | n,0,x,σ,hx,h1,hf=>by omega
  | 0,f+1,x,σ,hx,h1,hf=>by
    rw[d_law02_Same_l2_eq,b_law02_Same_l2]
    simp only[rn_Births,Option.bind_some,toI_int,show w64 ((0:Int)+1)=1 from rfl,decide_eq_false (show ¬ x≤1 by omega),cond_false]
  | n+1,f+1,x,σ,hx,h1,hf=>by
    have ih:=n_l2 k n f (x+1) σ (by omega) (by omega) (by omega)
    have w1:w64 (x+1)=x+1:=w64_in (by unfold inI; omega)
    rw[d_law02_Same_l2_eq,b_law02_Same_l2]
    simp only[rn_Births,Option.bind_some,toI_int,show w64 ((0:Int)+1)=1 from rfl,decide_eq_true (show x≤1 by omega),cond_true,hn_At,rn_At,r_ii_eq,bne_self_eq_false,cond_false,w1,ih]
theorem Same_nil (k:Nat) (σ:AMem):∃ τ,d_law02_Same (k+12) none none σ=some (.bool true,σ++τ):=by
  have e0:=n_l0 k 2 (k+11) (-1) σ (by omega) (by omega) (by omega)
  obtain ⟨τ,e1⟩:=n_l1 k 2 (k+11) (-1) σ (by omega) (by omega) (by omega)
  have e2:=n_l2 k 3 (k+11) (-1) (σ++τ) (by omega) (by omega) (by omega)
  refine ⟨τ, ?_⟩
  rw[d_law02_Same_eq,b_law02_Same]
  simp only[heap_Heap_Blocks_no (noN σ),rn_Blocks,heap_Heap_Births_no (noN σ),rn_Births,heap_Heap_Used_no (noN σ),rn_Used,heap_Heap_All_no (noN σ),rn_All,toS,ints_nil,Option.bind_some,toI_int,toB_bool,bne_self_eq_false,cond_false,Bool.not_true,eqPHn,eqPRn,beq_self_eq_true,e0,e1,e2,if_true,reduceCtorEq,if_false]
end
section
open Go Go.AX
noncomputable local instance qSI:Quiet:=fullQuiet
local instance nSI:Kn:=⟨true⟩
variable {σ:AMem} {m:HM} {t:RM} {i:HIds} {j:RI}
theorem clone_step (k:Nat) (hk:5000≤k) (W:Two σ i j m t):∃ σ1 σ2 i' j',d_heap_Heap_Clone (k+13) (hptr i) σ=some (.pointer (hptr i'),σ1)∧d_ref02_Heap_Clone (k+13) (rptr j) σ1=some (.pointer (rptr j'),σ2)∧Two σ2 i' j' m t∧(∀ q,q<σ.length→σ2[q]?=σ[q]?)∧(∀ q,q<σ.length→q ∉ i'.l∧q ∉ j'.l)∧σ.length≤σ2.length:=by
  obtain ⟨τ,i',e1,h1,lo1⟩:=Clone_to (k+10) W.h
  obtain ⟨σ1,hσ1⟩:∃ σ1,σ++τ=σ1:=⟨_,rfl⟩
  have g1:RG σ1 j m t:=hσ1 ▸ W.g.app τ
  rw[hσ1] at e1 h1
  have l1:σ.length≤σ1.length:=by rw[← hσ1]; simp
  obtain ⟨σ2,j',e2,r2,lo2,s2,l2⟩:=rClone_to (k+11) (by omega) g1 (by have:=W.fl; omega)
  have h2:HeapAt σ2 i' m:=h1.like fun q hq=>s2 q (h1.lt q hq)
  refine ⟨σ1,σ2,i',j',e1,e2,⟨h2,⟨r2,W.g.sim,W.g.inv,W.g.inv2,W.g.wl,W.g.nb,W.g.nt⟩,W.P,W.z,W.b0,fun q hq hm=>?_,W.br,W.fl⟩,fun q hq=>?_,fun q hq=>⟨fun hm=>?_,fun hm=>?_⟩,by omega⟩
  · have:=lo2 q hm; have:=h1.lt q hq; omega
  · rw[s2 q (by omega),← hσ1,List.getElem?_append_left hq]
  · have:=lo1 q hm; omega
  · have:=lo2 q hm; omega
theorem Plays_l0_to (k:Nat) (hk:5000≤k) (p:Option Addr) (c2:Nat) (l:List ActV) (hl:l.length≤60) (hok:∀ x ∈ l,x.ok):∀ (n x f:Nat) (σ:AMem) (i:HIds) (j:RI) (m:HM) (t:RM),Two σ i j m t→(l≠[] → ∃ ab T rw,p=some ⟨ab,0,none⟩∧σ[ab]?=some (.cells (actRow l) T rw)∧ab ∉ i.l∧ab ∉ j.l)→x+n=l.length→m.births≤x→m.fw.length≤x→n<f →
    ∃ σ' i' j' m' t',d_law02_HeapPlays_l0 (k+13) f p l.length c2 (hptr i) (rptr j) (x:Int) σ=some (.exit 0,[.pointer (hptr i'),.pointer (rptr j')],σ')∧Two σ' i' j' m' t'
  | n,x,0,σ,i,j,m,t,W,hA,hx,hb,hf,hn=>by omega
  | 0,x,f+1,σ,i,j,m,t,W,hA,hx,hb,hf,hn=>by
    rw[d_law02_HeapPlays_l0_eq,b_law02_HeapPlays_l0]
    exact ⟨σ,i,j,m,t,by simp only[decide_eq_false (show ¬ (x:Int)<((l.length:Nat):Int) by omega),cond_false,Option.bind_some],W⟩
  | n+1,x,f+1,σ,i,j,m,t,W,hA,hx,hb,hf,hn=>by
    have hxl:x<l.length:=by omega
    obtain ⟨ab,T,rw',rfl,hcell,o1,o2⟩:=hA (fun e=>by rw[e] at hxl; simp at hxl)
    have hab:=getElem?_lt hcell
    have qx:(0≤(x:Int)∧(x:Int)<((l.length:Nat):Int))=True:=eq_true (by omega)
    have w1:w64 ((x:Int)+1)=((x+1:Nat):Int):=w64_in (by unfold inI; omega)
    have ld:∀ (μ:AMem),μ[ab]?=σ[ab]?→ldI .i64 μ ab (x*7)=some l[x].k∧ldI .i64 μ ab (x*7+1)=some l[x].a∧ldI .i64 μ ab (x*7+2)=some l[x].b∧ldI .i64 μ ab (x*7+3)=some l[x].c∧ldI .i64 μ ab (x*7+4)=some l[x].r∧ldI .i64 μ ab (x*7+5)=some l[x].d∧ldI .i64 μ ab (x*7+6)=some l[x].s:=by
      intro μ hμ
      have key:∀ q v,q<7→(l[x]).cells[q]?=some (.int .i64 v)→ldI .i64 μ ab (x*7+q)=some v:=by
        intro q v hq hv
        simp only[ldI,ld1,hμ,hcell,actRow_get l x hxl q hq,hv,Option.bind_some,toI_int]
      exact ⟨key 0 _ (by decide) rfl,key 1 _ (by decide) rfl,key 2 _ (by decide) rfl,key 3 _ (by decide) rfl,key 4 _ (by decide) rfl,key 5 _ (by decide) rfl,key 6 _ (by decide) rfl⟩
    have one:∀ (μ:AMem) (i1:HIds) (j1:RI),Two μ i1 j1 m t→μ[ab]?=σ[ab]?→ab ∉ i1.l→ab ∉ j1.l → ∃ σ1 σ' i' j' m' t',d_law02_Play (k+13) (hptr i1) (rptr j1) l[x].k l[x].a l[x].b l[x].c l[x].r l[x].d l[x].s μ=some (.bool true,σ1)∧d_law02_HeapPlays_l0 (k+13) f (some ⟨ab,0,none⟩) l.length c2 (hptr i1) (rptr j1) ((x+1:Nat):Int) σ1=some (.exit 0,[.pointer (hptr i'),.pointer (rptr j')],σ')∧Two σ' i' j' m' t':=by
      intro μ i1 j1 W1 hμ n1 n2
      have hab1:ab<μ.length:=getElem?_lt (hμ.trans hcell)
      obtain ⟨_,_,_,b2,_,_⟩:=doR_keep W1.g.inv W1.g.inv2 W1.h.sh l[x]
      have hfw:=doR_fw m l[x]
      obtain ⟨σ1,j',t',e1,W2,a2⟩:=Play_to k hk W1 (by omega) (by omega) l[x] (hok _ (List.getElem_mem _))
      obtain ⟨σ',i3,j3,m3,t3,e2,W3⟩:=Plays_l0_to k hk (some ⟨ab,0,none⟩) c2 l hl hok n (x+1) f σ1 i1 j' (doR m l[x]).2 t' W2 (fun _=>⟨ab,T,rw',rfl,by rw[a2.same ab hab1 n1 n2,hμ]; exact hcell,n1,fun hm=>by
        rcases a2.new ab hm with e | e
        · exact n2 e
        · omega⟩) (by omega) (by omega) (by omega) (by omega)
      rw[show rptr j'=rptr j1 from by unfold rptr; rw[a2.hb]] at e2
      exact ⟨σ1,σ',i3,j3,m3,t3,e1,e2,W3⟩
    rw[d_law02_HeapPlays_l0_eq,b_law02_HeapPlays_l0]
    obtain ⟨d0,_⟩:=ld σ rfl
    by_cases q13:l[x].k=13
    · obtain ⟨σ1,σ2,i',j',e1,e2,W2,s2,n2,l2⟩:=clone_step k hk W
      obtain ⟨f0,f1,f2,f3,f4,f5,f6⟩:=ld σ2 (s2 ab hab)
      obtain ⟨σ3,σ',i3,j3,m3,t3,e3,e4,W3⟩:=one σ2 i' j' W2 (s2 ab hab) (n2 ab hab).1 (n2 ab hab).2
      refine ⟨σ',i3,j3,m3,t3, ?_,W3⟩
      simp only[decide_eq_true (show (x:Int)<((l.length:Nat):Int) by omega),cond_true,eqPR,Option.bind_some,Bool.not_false,qx,if_true,Int.toNat_natCast,Nat.zero_add,Nat.add_zero,Nat.add_assoc,Nat.reduceAdd,d0,show (l[x].k == 13)=true from by simpa using q13,e1,toP,e2,u_pp_eq,f0,f1,f2,f3,f4,f5,f6,e3,toB_bool,Bool.not_true,cond_false,w1]
      exact e4
    · obtain ⟨f0,f1,f2,f3,f4,f5,f6⟩:=ld σ rfl
      obtain ⟨σ3,σ',i3,j3,m3,t3,e3,e4,W3⟩:=one σ i j W rfl o1 o2
      refine ⟨σ',i3,j3,m3,t3, ?_,W3⟩
      simp only[decide_eq_true (show (x:Int)<((l.length:Nat):Int) by omega),cond_true,eqPR,Option.bind_some,Bool.not_false,qx,if_true,Int.toNat_natCast,Nat.zero_add,Nat.add_zero,Nat.add_assoc,Nat.reduceAdd,d0,show (l[x].k == 13)=false from by simpa using q13,cond_false,u_pp_eq,f0,f1,f2,f3,f4,f5,f6,e3,toB_bool,Bool.not_true,w1]
      exact e4
theorem law_alive (k:Nat) (σ:AMem):d_law02_alive (k+1) σ=some (.bool true,σ):=d_law02_alive_eq k σ
theorem HeapPlays_to (k:Nat) (hk:1000000≤k) (b:Int) (p:Option Addr) (c2:Nat) (l:List ActV) (hok:∀ x ∈ l,x.ok) (σ:AMem) (hA:ActsAt σ p l) (hp:l≠[] → ∀ a,p=some a→a.block<σ.length):
    ∃ σ',fn P (XK Kn.b) H (k+15) 3 [.int .i64 b,.slice p l.length c2] σ=some (.bool true,σ'):=by
  rw[show [Value.int .i64 b,.slice p l.length c2]=[.int .i64 b,.slice (p,l.length,c2).1 (p,l.length,c2).2.1 (p,l.length,c2).2.2] from rfl,law02_HeapPlays_is,d_law02_HeapPlays_eq,b_law02_HeapPlays]
  have hG:d_law02_Great (k+14) (p,l.length,c2) σ=some (.bool (decide (((l.length:Nat):Int)>60)),σ):=by
    rw[d_law02_Great_eq,b_law02_Great]
  simp only[hG,Option.bind_some,toB_bool]
  by_cases g0:((l.length:Nat):Int)>60
  · simp only[decide_eq_true g0,cond_true,Option.bind_some,law_alive,toB_bool]
    exact ⟨_,rfl⟩
  simp only[decide_eq_false g0,cond_false]
  have bad:¬ (2≤b∧b≤64) → ∃ σ',((d_heap_New (k+14) b σ).bind fun r7=>r_pi r7.1 fun p8 n9=>(d_ref02_New (k+14) b r7.2).bind fun r10=>r_pi r10.1 fun p11 n12=>(bif n9 != n12 then some (true,r10.2) else (eqA P pt_heap_Heap (.pointer p8) (.pointer none)).bind fun e13=>(eqA P pt_dustcartref02_Heap (.pointer p11) (.pointer none)).bind fun e14=>some (!((!e13) == (!e14)),r10.2)).bind fun r15=>bif r15.1 then (some (Value.bool false,r15.2)) else ((d_law02_HeapPlays_l0 (k+14) (k+14) p l.length c2 p8 p11 (0:Int) r15.2).bind fun r37=>if r37.1 = .exit 0 then (u_pp r37.2.1 fun p38 p39=>(d_law02_Same (k+14) p38 p39 r37.2.2).bind fun r40=>(toB r40.1).bind fun b41=>(bif b41 then (d_law02_alive (k+14) r40.2).bind fun r42=>(toB r42.1).bind fun b43=>some (b43,r42.2) else some (false,r40.2)).bind fun r44=>some (.bool r44.1,r44.2)) else if r37.1 = .ret then (u_t r37.2.1 fun b45=>some (.bool b45,r37.2.2)) else none))=some (.bool true,σ'):=by
    intro hb
    have e1:d_heap_New (k+14) b σ=_:=New_bad (k+13) b hb σ
    have e2:d_ref02_New (k+14) b σ=_:=rNew_bad (k+13) b hb σ
    have e3:d_law02_HeapPlays_l0 (k+14) (k+14) p l.length c2 none none (0:Int) σ=some (.exit 0,[.pointer none,.pointer none],σ):=by
      rw[d_law02_HeapPlays_l0_eq,b_law02_HeapPlays_l0]
      cases decide ((0:Int)<((l.length:Nat):Int)) with
      | true=>simp only[cond_true,eqPRn,Option.bind_some,Bool.not_true,cond_false]
      | false=>simp only[cond_false,Option.bind_some]
    obtain ⟨τ,e4⟩:=Same_nil (k+2) σ
    have e4':d_law02_Same (k+14) none none σ=_:=e4
    refine ⟨σ++τ, ?_⟩
    simp only[e1,Option.bind_some,r_pi_eq,e2,bne_self_eq_false,cond_false,eqPHn,eqPRn,Bool.not_true,beq_self_eq_true,e3,if_true,u_pp_eq,e4',toB_bool,cond_true,law_alive]
  by_cases g1:b>12
  · by_cases g2:b≤64
    · simp only[decide_eq_true g1,cond_true,Option.bind_some,decide_eq_true g2,law_alive,toB_bool]
      exact ⟨_,rfl⟩
    · simp only[decide_eq_true g1,cond_true,Option.bind_some,decide_eq_false g2,cond_false]
      exact bad (by omega)
  simp only[decide_eq_false g1,cond_false,Option.bind_some]
  by_cases g3:2≤b
  rotate_left
  · exact bad (by omega)
  obtain ⟨n,rfl⟩:∃ n:Nat,b=(n:Int):=⟨b.toNat,by omega⟩
  obtain ⟨σ1,i,e1,h1,lo1,k1⟩:=New_to (k+9) (n:=n) (by omega) (by omega) σ
  have e1':d_heap_New (k+14) (n:Int) σ=_:=e1
  obtain ⟨τ,j,e2,r2,lo2⟩:=rNew_to (k+13) (n:=n) (by omega) (by omega) σ1
  have e2':d_ref02_New (k+14) (n:Int) σ1=_:=e2
  have W:Two (σ1++τ) i j (newM n) ⟨List.replicate n (0,0),[],[],0⟩:=⟨h1.app τ,⟨r2,Sim.new n,Inv.new n,Inv2.new n,h1.wl,h1.nb,h1.nt⟩,PinZ.new n,FZ.new n,B0.new n,fun q hq hm=>by have:=h1.lt q hq; have:=lo2 q hm; omega,by show (0:Int)≤1000; decide,by show 0≤1000; omega⟩
  obtain ⟨σ',i',j',m',t',e3,W3⟩:=Plays_l0_to (k+1) (by omega) p c2 l (by omega) hok l.length 0 (k+14) (σ1++τ) i j (newM n) _ W (fun hl=>by
    rcases hA with h | ⟨ab,T,rw',rfl,hc⟩
    · exact absurd h hl
    · have hlt:=getElem?_lt hc
      have hni:ab ∉ i.l:=fun hm=>by have:=lo1 ab hm; omega
      have hl1:=k1.len
      exact ⟨ab,T,rw',rfl,by rw[List.getElem?_append_left (by omega),k1.same ab hlt hni]; exact hc,hni,fun hm=>by have:=lo2 ab hm; omega⟩) (by omega) (Int.le_refl _) (Nat.le_refl _) (by omega)
  have e3':d_law02_HeapPlays_l0 (k+14) (k+14) p l.length c2 (hptr i) (rptr j) 0 (σ1++τ)=_:=e3
  obtain ⟨τ4,e4⟩:=Same_to (k+2) (by omega) W3
  have e4':d_law02_Same (k+14) (hptr i') (rptr j') σ'=_:=e4
  simp only[e1',Option.bind_some,r_pi_eq,e2',bne_self_eq_false,cond_false,eqPH,eqPR,Bool.not_false,beq_self_eq_true,Bool.not_true,e3',if_true,u_pp_eq,e4',toB_bool,cond_true,law_alive]
  exact ⟨_,rfl⟩
end
end Go.Proofs.YtlaplcglpnlieaaGreat
