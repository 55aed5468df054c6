/-
 Regions whose order is drawn: the theorem.
-/
import Derived.Test.YtjbledomkmdkmaaGreatP5
set_option linter.unusedSimpArgs false
set_option linter.unusedVariables false
set_option linter.unusedSectionVars false
namespace Go.AX
open Go
variable {ρ:Type} {P:Program} [A9]
theorem count_set {l:List Bool} {i:Nat} (h:l[i]?=some false):(l.set i true).count false+1=l.count false:=by
 induction l generalizing i with
 | nil=>simp at h
 | cons b l ih=>
   cases i with
   | zero=>simp at h; subst h; simp
   | succ i=>
     simp at h
     have:=ih h
     cases b <;> simp[List.count_cons] <;> omega
theorem Aao {l:List Bool} {n:Nat} (h:l.count false=n+1):∃ i:Nat,l[i]?=some false ∧ ∀ j:Nat,j<i→l[j]?=some true:=by
 induction l generalizing n with
 | nil=>simp at h
 | cons b l ih=>
   cases b with
   | false=>exact ⟨0,rfl,fun j hj=>by omega⟩
   | true=>
     simp at h
     obtain ⟨i,h1,h2⟩:=ih h
     refine ⟨i+1,by simpa using h1,fun j hj=>?_⟩
     cases j with
     | zero=>rfl
     | succ j=>simpa using h2 j (by omega)
section
variable {qf:Nat→QF} {all:Array Oper} {E0 E':AZ} {σ0 σ':Aa} {hi:Nat} {μ0:Mu} {w0:World}
theorem yv {ro:Option Nat} {nn:Nat} {Q:Exit→Act→World→Prop} (D:Data P qf all.toList E0 σ0 E' σ') (hd:R9 P all.toList qf) (a0:Act)
  (hQ:∀ (a':Act) (μ':Mu) (w':World),R P μ' σ' w'→Step μ0 σ0 w0 μ' σ' w'→OJ μ' E' a'.tmps→a'.defers=a0.defers→a'.tmps.size=a0.tmps.size→(∀ t,(∀ o ∈ all.toList,o.dst≠some t)→a'.tmps[t]?=a0.tmps[t]?)→Q .normal a' w')
  (hE:E0.length≤a0.tmps.size) (hlive:∀ t b,E0.getD t none=some (.pointer (some b))→b.block<σ0.length∨(D.Sf all.toList.length).length≤b.block):
  ∀ (fuel:Nat) (listed:Array Bool) (a:Act) (μ:Mu) (w:World),listed.size=all.toList.length→listed.toList.count false=fuel →
   (∀ i o,all.toList[i]?=some o→L listed i → ∀ e ∈ o.after.toList,Region.binds .any e=true→L listed e.on) →
   Qe D hi μ0 w0 listed μ w→jF D listed μ a.tmps→a.defers=a0.defers→a.tmps.size=a0.tmps.size→(∀ t,(∀ o ∈ all.toList,o.dst≠some t)→a.tmps[t]?=a0.tmps[t]?) →
   wpAnyIn (FW ro) nn P .any all Q fuel listed a w:=by
 intro fuel
 induction fuel with
 | zero=>
   intro listed a μ w hsz hcount hdown hM hReg hdef hasz hoth
   have hallL:∀ j,j<all.toList.length→L listed j:=by
    intro j hj
    have hj':j<listed.toList.length:=by simp only[Array.length_toList] at hsz hj ⊢; omega
    have hne:listed.toList[j]≠false:=by
     intro he
     have:0<listed.toList.count false:=List.count_pos_iff.2 (he ▸ List.getElem_mem hj')
     omega
    have:listed.toList[j]=true:=by cases h:listed.toList[j] <;> simp_all
    unfold L
    have hj2:j<listed.size:=by simpa using hj'
    simp only[Array.getElem_toList] at this
    simp[hj2,this]
   refine ⟨?_, ?_⟩
   ·cases hr:Region.ready .any all listed with
    | nil=>rfl
    | cons x xs=>
      have:x ∈ Region.ready .any all listed:=by rw[hr]; simp
      obtain ⟨h1,o,ho,_⟩:=mem_ready.1 this
      have hx:x<all.toList.length:=by simpa using (Array.getElem?_eq_some_iff.1 ho).1
      have:=hallL x hx
      unfold L at this
      have hx2:x<listed.size:=by omega
      simp[hx2] at h1 this
      rw[h1] at this; cases this
   ·obtain ⟨m,hm,hlo,hml,hR⟩:=hM.mem
    have hmn:m=all.toList.length:=by
     rcases hml with h | h
     ·exact h
     ·by_cases hlt:m<all.toList.length
      ·have:=(hlo m hlt h).1 (hallL m hlt); omega
      ·omega
    subst hmn
    rw[D.sn] at hR
    refine hQ a μ w hR ?_ ?_ hdef hasz hoth
    ·have g1:=hM.mu
     have g2:=hM.new
     have g3:=hM.frame
     have g4:=D.JV (i:=0) all.toList.length (Nat.zero_le _) (Nat.le_refl _)
     have g5:∀ h,h<(D.Sf 0).length→Ay (D.Sf all.toList.length) h→Ay (D.Sf 0) h:=by
      intro h hh
      have:∀ k,k≤all.toList.length→Ay (D.Sf k) h→Ay (D.Sf 0) h:=by
       intro k
       induction k with
       | zero=>intro _ hw; exact hw
       | succ k ih=>
         intro hk hw
         exact ih (by omega) (hM.wr k (by omega) (hallL k (by omega)) h (Nat.lt_of_lt_of_le hh (D.JV k (Nat.zero_le _) (by omega))) hw)
      exact this _ (Nat.le_refl _)
     rw[D.s0,D.sn] at g1 g2 g4 g5
     rw[D.s0] at g3
     exact ⟨g4,g1,g5,g2,hM.size,hM.tape,hM.os,hM.output,g3⟩
    ·refine ⟨by rw[← D.en,D.xt _ (Nat.le_refl _),hasz]; exact hE,fun t v hv=>?_⟩
     obtain ⟨m',hm',hw,hvm⟩:=hReg t
     rw[← D.en] at hv
     refine hvm v ?_
     rw[← D.WE _ hm' (Nat.le_refl _) fun k o h1 h2 hk hdk=>?_]
     ·exact hv
     ·have:=(hw k o hk hdk).1 (hallL k h2); omega
 | succ fuel ih=>
   intro listed a μ w hsz hcount hdown hM hReg hdef hasz hoth
   refine ⟨?_, ?_⟩
   ·
    intro hnil
    obtain ⟨i,h1,h2⟩:=Aao hcount
    have hil:i<listed.toList.length:=(List.getElem?_eq_some_iff.1 h1).1
    have hi':i<all.toList.length:=by simp only[Array.length_toList] at hil hsz ⊢; omega
    have:i ∈ Region.ready .any all listed:=by
     rw[mem_ready]
     have hi2:i<listed.size:=by simpa using hil
     have h1':listed[i]?=some false:=by simpa using h1
     refine ⟨by simp[h1'],all.toList[i],by simp,fun e he hb=>?_⟩
     have hlt:=hd.down i _ (List.getElem?_eq_getElem hi') e (by simpa using he) hb
     have h2':listed[e.on]?=some true:=by simpa using h2 e.on hlt
     simp[h2']
    rw[hnil] at this
    cases this
   ·intro i hir
    obtain ⟨hun,o,ho,hedges⟩:=mem_ready.1 hir
    have hol:all.toList[i]?=some o:=by simpa using ho
    have hlt:i<all.toList.length:=(List.getElem?_eq_some_iff.1 hol).1
    have hunL:¬ L listed i:=by
     unfold L
     have hi2:i<listed.size:=by omega
     simp[hi2] at hun ⊢
     exact hun
    have hedgesL:∀ e ∈ o.after.toList,Region.binds .any e=true→L listed e.on:=fun e he hb=>hedges e (by simpa using he) hb
    have hready:kY P qf all.toList listed i:=by
     refine ⟨hlt,hsz,hunL,fun j hji hord=>?_⟩
     unfold ordered at hord
     rw[Bool.or_eq_true] at hord
     rcases hord with hord | hord
     ·have h1:=ou (S:=L listed) hdown i hol hedgesL hord
      have h2:=Adk hd.down i hord
      exact ⟨fun _=>h2,fun _=>h1⟩
     ·have h2:=Adk hd.down j hord
      refine ⟨fun hl=>?_,fun hl=>by omega⟩
      obtain ⟨oj,hoj⟩:=ov hord
      exact absurd (ou (S:=L listed) hdown j hoj (hdown j oj hoj hl) hord) hunL
    have hset:∀ j,L (listed.setIfInBounds i true) j↔j=i∨L listed j:=fun j=>yI (by omega)
    have hE2:E0.length≤a.tmps.size:=by omega
    have next:∀ (v':Value) (μ':Mu) (w':World),RV μ' (D.V i) v'→μ.le μ'→Qe D hi μ0 w0 (listed.setIfInBounds i true) μ' w'→wpAnyIn (FW ro) nn P .any all Q fuel (listed.setIfInBounds i true) (a.put o.dst v') w':=by
     intro v' μ' w' hv hle hM'
     refine ih _ _ μ' w' (by simpa using hsz) ?_ ?_ hM' (hReg.put hd hready hol hE2 hle hv) (by rw[← hdef]; cases o.dst <;> rfl) (by rw[je,hasz]) ?_
     ·have hi2:i<listed.size:=by omega
      have h1:listed.toList[i]?=some false:=by
       simp[hi2] at hun ⊢; exact hun
      have:=count_set h1
      rw[Array.toList_setIfInBounds]; omega
     ·intro j oj hj hl e he hb
      rw[hset] at hl ⊢
      rcases hl with rfl | hl
      ·rw[hol] at hj; cases hj
       exact .inr (hedgesL e he hb)
      ·exact .inr (hdown j oj hj hl e he hb)
     ·intro t ht
      rw[SC (ht o (List.mem_of_getElem? hol))]
      exact hoth t ht
    have hops:∀ (regs:AZ),Nx (D.Ef i) regs → ∀ x u,fH o (tB regs) x=some u→RV μ u (a.eval x):=by
     intro regs hw x u hx
     obtain ⟨hxo,hx⟩:=M9 hx
     cases x with
     | tmp t=>
       obtain ⟨v',h1,h2⟩:=hReg.at hd hready hol (t:=t) (.inl (List.mem_append_left _ (List.mem_filterMap.2 ⟨.tmp t,by simpa using hxo,rfl⟩))) u (hw t u hx)
       simp only[Act.eval,Array.getD_eq_getD_getElem?,h1,Option.getD_some]
       exact h2
     | const v=>
       simp only[tB] at hx
       split at hx
       ·cases hx; exact .JU ‹_›
       ·cases hx
     | global g=>cases hx
     | func f=>cases hx; exact .func (fun l hl=>by cases hl) .nil .nil
    have hguard:∀ (regs:AZ),Nx (D.Ef i) regs → ∀ j want u,o.guard=some (j,want)→Uo all.toList regs j=some u → ∃ d v',Yk all.toList j=some d∧a.tmps[d]?=some v'∧RV μ u v':=by
     intro regs hw j want u hg hr
     unfold Uo at hr
     split at hr
     ·rename_i d hdj
      obtain ⟨v',h1,h2⟩:=hReg.at hd hready hol (t:=d) (.inl (List.mem_append_right _ (by rw[hg]; simp[hdj]))) u (hw d u hr)
      exact ⟨d,v',hdj,h1,h2⟩
     ·cases hr
    unfold wpOpIn
    rw[ho]
    simp only
    rcases (D.step i o hol).2 with ⟨regs,hw,hy,hf⟩ | ⟨⟨regs,hw,hn⟩,hV,hs⟩
    ·
     have hwant:Region.wanted o (yielded all a.tmps)=true:=by
      unfold yes at hy
      unfold Region.wanted
      split at hy
      ·rename_i hg; rw[hg]
      ·rename_i j want hg
       rw[hg]
       obtain ⟨d,v',h1,h2,h3⟩:=hguard regs hw j want _ hg hy
       cases h3
       unfold Yk at h1
       simp only[Array.getElem?_toList] at h1
       simp only[yielded,h1,Option.bind_some,h2]
       simp
     rw[if_pos hwant]
     by_cases hc:J9 P all.toList qf i = .pure
     ·have hcl:Gm P o = .pure:=by
       exact jU (P:=P) (qf:=qf) hol hc
      obtain ⟨hs,hp⟩:=hf.pure hcl
      obtain ⟨v',h1,h2⟩:=hp μ w a.eval (hops regs hw)
      refine St (VQ h1 (by intro d hd; cases hd)) ?_
      unfold Oper.wp
      rw[h1,Oper.upon_value]
      exact next v' μ w h2 (Mu.le_refl _) (hM.idle hd hready hs)
     ·by_cases hfb:∃ k,k<all.toList.length∧Ul all.toList qf k i=true
      ·obtain ⟨kf,_,hkf⟩:=hfb
       obtain ⟨o2,ho2,hop⟩:=iM hkf
       have hoo:o2=o:=by rw[hol] at ho2; exact (Option.some.inj ho2).symm
       subst hoo
       obtain ⟨σ2,hR2,hld⟩:=hM.far hd hready hol hop hw hf hlive
       obtain ⟨v',h1,h2⟩:=hld μ w a.eval hR2 (hops regs hw)
       refine St (VQ h1 (by intro d hd; cases hd)) ?_
       unfold Oper.wp
       rw[h1,Oper.upon_value]
       exact next v' μ w h2 (Mu.le_refl _) (hM.idle hd hready (D.kz ho2 hop))
      have hfb:∀ k,k<all.toList.length→Ul all.toList qf k i=false:=fun k hk=>by
       cases hq:Ul all.toList qf k i with
       | false=>rfl
       | true=>exact absurd ⟨k,hk,hq⟩ hfb
      obtain ⟨hR,hrest⟩:=hM.run hd hready hc hfb
      refine hf.wp a μ w hR (hM.fresh i hlt hunL) (hops regs hw) _ _ _ _ ?_
      intro μ' v' w' hv hR' hS'
      exact next v' μ' w' hv (hS'.le (hM.fresh i hlt hunL)) (hrest μ' w' hS' hR')
    ·have hwant:Region.wanted o (yielded all a.tmps)=false:=by
      obtain ⟨j,want,hg,hn⟩:=hn
      unfold Region.wanted
      rw[hg]
      rcases hn with ⟨b,hr,hb⟩ | hr
      ·obtain ⟨d,v',h1,h2,h3⟩:=hguard regs hw j want _ hg hr
       cases h3
       unfold Yk at h1
       simp only[Array.getElem?_toList] at h1
       simp only[yielded,h1,Option.bind_some,h2]
       simpa using hb
      ·obtain ⟨d,v',h1,h2,h3⟩:=hguard regs hw j want _ hg hr
       unfold undef at h3
       cases h3
       unfold Yk at h1
       simp only[Array.getElem?_toList] at h1
       simp only[yielded,h1,Option.bind_some,h2]
       rfl
     rw[hwant]
     simp only[Bool.false_eq_true,if_false]
     refine ⟨fun _ _=>trivial, ?_⟩
     exact next undef μ w (by rw[hV]; exact Y8) (Mu.le_refl _) (hM.idle hd hready hs)
theorem Agk {ro:Option Nat} {nn:Nat} {Q:Exit→Act→World→Prop} (hmix:P.follows .mixedOrders=true) {id:Nat} (ht:Tr P qf all.toList (all.toList.zipIdx.map fun x=>(x.2,x.1)) E0 σ0 E' σ') (hd:gw P all.toList qf=true) (hhi:σ'.length≤hi)
  (a:Act) (μ:Mu) (w:World) (hR:R P μ σ0 w) (hfr:Ia μ σ0.length hi) (hreg:OJ μ E0 a.tmps)
  (hQ:∀ (a':Act) (μ':Mu) (w':World),R P μ' σ' w'→Step μ σ0 w μ' σ' w'→OJ μ' E' a'.tmps→a'.defers=a.defers→a'.tmps.size=a.tmps.size→(∀ t,(∀ o ∈ all.toList,o.dst≠some t)→a'.tmps[t]?=a.tmps[t]?)→Q .normal a' w'):
  (Code.region id all true).wpIn (FW ro) nn P Q a w:=by
 obtain ⟨D⟩:=Ahk ht
 have hd':=vh hd
 refine wpIn_region_any hmix ?_
 have hrep:∀ j,¬ L (Array.replicate all.size false) j:=by
  intro j hl
  unfold L at hl
  by_cases hj:j<all.size <;> simp[hj] at hl
 refine yv (hi:=hi) (μ0:=μ) (w0:=w) D hd' a ?_ hreg.1 (by
  intro t b hb
  obtain ⟨v',h1,h2⟩:=hreg.2 t _ hb
  obtain ⟨k,hk,_⟩:=pG h2
  rw[D.sn]
  rcases Nat.lt_or_ge b.block σ0.length with h | h
  ·exact .inl h
  ·rcases Nat.lt_or_ge b.block hi with h' | h'
   ·rw[hfr b.block h h'] at hk; cases hk
   ·exact .inr (by omega)) all.size (Array.replicate all.size false) a μ _ (by simp) (by simp[List.count_replicate]) (fun i o _ hl=>absurd hl (hrep i)) ?_ ?_ rfl rfl fun _ _=>rfl
 ·intro a' μ' w' h1 h2 h3 h4 h5 h6
  exact hQ a' μ' w' h1 h2 h3 h4 h5 h6
 ·obtain ⟨m,h1,h2,h3,h4⟩:=nf P qf all.toList all.toList.length 0 (by simp)
  have hfresh:∀ j,j<all.toList.length→Ia μ (D.Sf j).length (D.Sf (j+1)).length:=by
   intro j hj
   refine hfr.sub ?_ ?_
   ·have:=D.JV (i:=0) j (Nat.zero_le _) (by omega)
    rw[D.s0] at this; exact this
   ·have:=D.JV (i:=j+1) all.toList.length hj (Nat.le_refl _)
    rw[D.sn] at this; omega
  refine ⟨⟨m,h2, ?_,h4, ?_⟩,fun j hj _=>hfresh j hj,fun _ _=>rfl, ?_,fun j _ hl=>absurd hl (hrep j),Nat.le_refl _,rfl,rfl,rfl,fun _ _ _=>rfl⟩
  ·intro j hj hc
   constructor
   ·intro hl; exact absurd hl (hrep j)
   ·intro hlt; exact absurd hc (h3 j (Nat.zero_le _) hlt)
  ·have hR':R P μ (D.Sf 0) w.drew:=by rw[D.s0]; exact hR.drew
   exact hR'.extend (D.chain m h1 h2 h3) (cq D m h1 h2 fun k _ hk=>hfresh k (by omega))
  ·intro h k hh1 hh2 hk
   have:μ h=none:=hfr h (by rw[D.s0] at hh1; exact hh1) (by rw[D.sn] at hh2; omega)
   rw[this] at hk; cases hk
 ·intro t
  refine ⟨0,Nat.zero_le _,fun j o _ _=>⟨fun hl=>absurd hl (hrep j),fun h=>by omega⟩,fun v hv=>?_⟩
  rw[D.e0] at hv
  exact hreg.2 t v hv
end
end Go.AX
