/-
 Regions whose order is drawn: the theorem.
-/
import Derived.Test.YtjbledomkmdkmaaGreatP6
set_option linter.unusedVariables false
set_option linter.unusedSimpArgs false
set_option linter.unusedSectionVars false
namespace Go.AX
open Go
noncomputable section
variable {ρ:Type} {P:Program} [AA]
theorem count_set {l:List Bool} {i:Nat} (h:l[i]?=some false):(l.set i true).count false+1=l.count false:=by
 induction l generalizing i with
 | nil=>simp at h
 | cons b l ih=>
   cases i with
   | zero=>simp at h; subst h; simp
   | succ i=>
     simp at h;have:=ih h;cases b <;> simp[List.count_cons] <;> omega
theorem lW {l:List Bool} {n:Nat} (h:l.count false=n+1):∃ i:Nat,l[i]?=some false /\ ∀ j:Nat,j<i->l[j]?=some true:=by
 induction l generalizing n with
 | nil=>simp at h
 | cons b l ih=>
   cases b with
   | false=>exact ⟨0,rfl,fun j hj=>by omega⟩
   | true=>
     simp at h;obtain ⟨i,h1,h2⟩:=ih h;refine ⟨i+1,by simpa using h1,fun j hj=>?_⟩;cases j with
     | zero=>rfl
     | succ j=>simpa using h2 j (by omega)
section
variable {qf:Nat->QF} {all:Array Oper} {E0 E':Bc} {J0_ J':Aa} {hi:Nat} {Z0_:Mu} {w0:World}
theorem j5 {ro:Option Nat} {nn:Nat} {Q:Exit->Act->World->Prop} (D:Data P qf all.toList E0 J0_ E' J') (hd:LI P all.toList qf) (a0:Act)
  (hQ:∀ (a':Act) (Z':Mu) (w':World),R P Z' J' w'->Step Z0_ J0_ w0 Z' J' w'->Kx Z' E' a'.tmps->a'.defers=a0.defers->a'.tmps.size=a0.tmps.size->(∀ t,(∀ o ∈ all.toList,o.dst≠some t)->a'.tmps[t]?=a0.tmps[t]?)->Q .normal a' w')
  (hE:E0.length<=a0.tmps.size) (hlive:∀ t b,E0.getD t none=some (.pointer (some b))->b.block<J0_.length\/(D.Sf all.toList.length).length<=b.block):
  ∀ (fuel:Nat) (listed:Array Bool) (a:Act) (Z:Mu) (w:World),listed.size=all.toList.length->listed.toList.count false=fuel ->
   (∀ i o,all.toList[i]?=some o->L listed i -> ∀ e ∈ o.after.toList,Region.binds .any e=true->L listed e.on) ->
   KZ D hi Z0_ w0 listed Z w->V8 D listed Z a.tmps->a.defers=a0.defers->a.tmps.size=a0.tmps.size->(∀ t,(∀ o ∈ all.toList,o.dst≠some t)->a.tmps[t]?=a0.tmps[t]?) ->
   wpAnyIn (FW ro) nn P .any all Q fuel listed a w:=by
 intro fuel
 induction fuel with
 | zero=>
   intro listed a Z w hsz hcount hdown hM hReg hdef hasz hoth;have hallL:∀ j,j<all.toList.length->L listed j:=by
    intro j hj;have hj':j<listed.toList.length:=by simp only[zN] at hsz hj ⊢; omega
    have hne:listed.toList[j]≠false:=by
     intro he;have:0<listed.toList.count false:=List.count_pos_iff.2 (he ▸ yU hj');omega
    have:listed.toList[j]=true:=by cases h:listed.toList[j] <;> simp_all
    unfold L;have hj2:j<listed.size:=by simpa using hj'
    simp only[Array.getElem_toList] at this;simp[hj2,this]
   refine ⟨?_, ?_⟩
   ·cases hr:Region.ready .any all listed with
    | nil=>rfl
    | cons x xs=>
      have:x ∈ Region.ready .any all listed:=by rw[hr]; simp
      obtain ⟨h1,o,ho,_⟩:=mem_ready.1 this;have hx:x<all.toList.length:=by simpa using (Ab1.1 ho).1
      have:=hallL x hx;unfold L at this;have hx2:x<listed.size:=by omega
      simp[hx2] at h1 this;rw[h1] at this; cases this
   ·obtain ⟨m,hm,hlo,hml,hR⟩:=hM.mem;have hmn:m=all.toList.length:=by
     rcases hml with h | h
     ·exact h
     ·by_cases hlt:m<all.toList.length
      ·have:=(hlo m hlt h).1 (hallL m hlt); omega
      ·omega
    subst hmn;rw[D.sn] at hR;refine hQ a Z w hR ?_ ?_ hdef hasz hoth
    ·have g1:=hM.mu;have g2:=hM.new;have g3:=hM.frame;have g4:=D.HF (i:=0) all.toList.length (zh _) (yj _);have g5:∀ h,h<(D.Sf 0).length->Az (D.Sf all.toList.length) h->Az (D.Sf 0) h:=by
      intro h hh;have:∀ k,k<=all.toList.length->Az (D.Sf k) h->Az (D.Sf 0) h:=by
       intro k
       induction k with
       | zero=>intro _ hw; exact hw
       | succ k ih=>
         intro hk hw;exact ih (by omega) (hM.wr k (by omega) (hallL k (by omega)) h (yG hh (D.HF k (zh _) (by omega))) hw)
      exact this _ (yj _)
     rw[D.s0,D.sn] at g1 g2 g4 g5;rw[D.s0] at g3;exact ⟨g4,g1,g5,g2,hM.size,hM.tape,hM.os,hM.output,g3⟩
    ·refine ⟨by rw[<- D.en,D.ik _ (yj _),hasz]; exact hE,fun t v hv=>?_⟩;obtain ⟨m',hm',hw,hvm⟩:=hReg t;rw[<- D.en] at hv;refine hvm v ?_;rw[<- D.Ob _ hm' (yj _) fun k o h1 h2 hk hdk=>?_]
     ·exact hv
     ·have:=(hw k o hk hdk).1 (hallL k h2); omega
 | succ fuel ih=>
   intro listed a Z w hsz hcount hdown hM hReg hdef hasz hoth;refine ⟨?_, ?_⟩
   ·
    intro hnil;obtain ⟨i,h1,h2⟩:=lW hcount;have hil:i<listed.toList.length:=(yu.1 h1).1;have hi':i<all.toList.length:=by simp only[zN] at hil hsz ⊢; omega
    have:i ∈ Region.ready .any all listed:=by
     rw[mem_ready];have hi2:i<listed.size:=by simpa using hil
     have h1':listed[i]?=some false:=by simpa using h1
     refine ⟨by simp[h1'],all.toList[i],by simp,fun e he hb=>?_⟩;have hlt:=hd.down i _ (yg hi') e (by simpa using he) hb;have h2':listed[e.on]?=some true:=by simpa using h2 e.on hlt
     simp[h2']
    rw[hnil] at this;cases this
   ·intro i hir;obtain ⟨hun,o,ho,hedges⟩:=mem_ready.1 hir;have hol:all.toList[i]?=some o:=by simpa using ho
    have hlt:i<all.toList.length:=(yu.1 hol).1;have hunL:¬ L listed i:=by
     unfold L;have hi2:i<listed.size:=by omega
     simp[hi2] at hun ⊢;exact hun
    have hedgesL:∀ e ∈ o.after.toList,Region.binds .any e=true->L listed e.on:=fun e he hb=>hedges e (by simpa using he) hb;have hready:WC P qf all.toList listed i:=by
     refine ⟨hlt,hsz,hunL,fun j hji hord=>?_⟩;unfold ordered at hord;rw[Aap] at hord;rcases hord with hord | hord
     ·have h1:=Yr (S:=L listed) hdown i hol hedgesL hord;have h2:=oN hd.down i hord;exact ⟨fun _=>h2,fun _=>h1⟩
     ·have h2:=oN hd.down j hord;refine ⟨fun hl=>?_,fun hl=>by omega⟩;obtain ⟨oj,hoj⟩:=Ys hord;exact absurd (Yr (S:=L listed) hdown j hoj (hdown j oj hoj hl) hord) hunL
    have hset:∀ j,L (listed.setIfInBounds i true) j↔j=i\/L listed j:=fun j=>jD (by omega);have hE2:E0.length<=a.tmps.size:=by omega
    have next:∀ (v':Value) (Z':Mu) (w':World),RV Z' (D.V i) v'->Z.le Z'->KZ D hi Z0_ w0 (listed.setIfInBounds i true) Z' w'->wpAnyIn (FW ro) nn P .any all Q fuel (listed.setIfInBounds i true) (a.put o.dst v') w':=by
     intro v' Z' w' hv hle hM';refine ih _ _ Z' w' (by simpa using hsz) ?_ ?_ hM' (hReg.put hd hready hol hE2 hle hv) (by rw[<- hdef]; cases o.dst <;> rfl) (by rw[Vh,hasz]) ?_
     ·have hi2:i<listed.size:=by omega
      have h1:listed.toList[i]?=some false:=by
       simp[hi2] at hun ⊢; exact hun
      have:=count_set h1;rw[Ac1]; omega
     ·intro j oj hj hl e he hb;rw[hset] at hl ⊢;rcases hl with rfl | hl
      ·rw[hol] at hj; cases hj;exact .inr (hedgesL e he hb)
      ·exact .inr (hdown j oj hj hl e he hb)
     ·intro t ht;rw[Md (ht o (Aa4 hol))];exact hoth t ht
    have hops:∀ (regs:Bc),JO (D.Ef i) regs -> ∀ x u,TK o (cf regs) x=some u->RV Z u (a.eval x):=by
     intro regs hw x u hx;obtain ⟨hxo,hx⟩:=J1 hx;cases x with
     | tmp t=>
       obtain ⟨v',h1,h2⟩:=hReg.at hd hready hol (t:=t) (.inl (List.mem_append_left _ (List.mem_filterMap.2 ⟨.tmp t,by simpa using hxo,rfl⟩))) u (hw t u hx);simp only[Act.eval,Abb,h1,Aaz];exact h2
     | const v=>
       simp only[cf] at hx;split at hx
       ·cases hx; exact .HE ‹_›
       ·cases hx
     | global g=>cases hx
     | func f=>cases hx; exact .func (fun l hl=>by cases hl) .nil .nil
    have hguard:∀ (regs:Bc),JO (D.Ef i) regs -> ∀ j want u,o.guard=some (j,want)->MP all.toList regs j=some u -> ∃ d v',Pc all.toList j=some d/\a.tmps[d]?=some v'/\RV Z u v':=by
     intro regs hw j want u hg hr;unfold MP at hr;split at hr
     ·rename_i d hdj;obtain ⟨v',h1,h2⟩:=hReg.at hd hready hol (t:=d) (.inl (List.mem_append_right _ (by rw[hg]; simp[hdj]))) u (hw d u hr);exact ⟨d,v',hdj,h1,h2⟩
     ·cases hr
    unfold wpOpIn;rw[ho];simp only;rcases (D.step i o hol).2 with ⟨regs,hw,hy,hf⟩ | ⟨⟨regs,hw,hn⟩,hV,hs⟩
    ·
     have hwant:Region.wanted o (yielded all a.tmps)=true:=by
      unfold yes at hy;unfold Region.wanted;split at hy
      ·rename_i hg; rw[hg]
      ·rename_i j want hg;rw[hg];obtain ⟨d,v',h1,h2,h3⟩:=hguard regs hw j want _ hg hy;cases h3;unfold Pc at h1;simp only[Aai] at h1;simp only[yielded,h1,AI,h2];simp
     rw[yk hwant];by_cases hc:H3 P all.toList qf i = .pure
     ·have hcl:F6 P o = .pure:=by
       exact VE (P:=P) (qf:=qf) hol hc
      obtain ⟨hs,hp⟩:=hf.pure hcl;obtain ⟨v',h1,h2⟩:=hp Z w a.eval (hops regs hw);refine LX (N8 h1 (by intro d hd; cases hd)) ?_;unfold Oper.wp;rw[h1,Ab8];exact next v' Z w h2 (Mu.le_refl _) (hM.idle hd hready hs)
     ·by_cases hfb:∃ k,k<all.toList.length/\MN all.toList qf k i=true
      ·obtain ⟨kf,_,hkf⟩:=hfb;obtain ⟨o2,ho2,hop⟩:=UW hkf;have hoo:o2=o:=by rw[hol] at ho2; exact (zH ho2).symm
       subst hoo;obtain ⟨J2_,hR2,hld⟩:=hM.xA hd hready hol hop hw hf hlive;obtain ⟨v',h1,h2⟩:=hld Z w a.eval hR2 (hops regs hw);refine LX (N8 h1 (by intro d hd; cases hd)) ?_;unfold Oper.wp;rw[h1,Ab8];exact next v' Z w h2 (Mu.le_refl _) (hM.idle hd hready (D.Wd ho2 hop))
      have hfb:∀ k,k<all.toList.length->MN all.toList qf k i=false:=fun k hk=>by
       cases hq:MN all.toList qf k i with
       | false=>rfl
       | true=>exact absurd ⟨k,hk,hq⟩ hfb
      obtain ⟨hR,hrest⟩:=hM.run hd hready hc hfb;refine hf.wp a Z w hR (hM.fresh i hlt hunL) (hops regs hw) _ _ _ _ ?_;intro Z' v' w' hv hR' hS';exact next v' Z' w' hv (hS'.le (hM.fresh i hlt hunL)) (hrest Z' w' hS' hR')
    ·have hwant:Region.wanted o (yielded all a.tmps)=false:=by
      obtain ⟨j,want,hg,hn⟩:=hn;unfold Region.wanted;rw[hg];rcases hn with ⟨b,hr,hb⟩ | hr
      ·obtain ⟨d,v',h1,h2,h3⟩:=hguard regs hw j want _ hg hr;cases h3;unfold Pc at h1;simp only[Aai] at h1;simp only[yielded,h1,AI,h2];simpa using hb
      ·obtain ⟨d,v',h1,h2,h3⟩:=hguard regs hw j want _ hg hr;unfold undef at h3;cases h3;unfold Pc at h1;simp only[Aai] at h1;simp only[yielded,h1,AI,h2];rfl
     rw[hwant];simp only[y8,yq];refine ⟨fun _ _=>trivial, ?_⟩;exact next undef Z w (by rw[hV]; exact Pv) (Mu.le_refl _) (hM.idle hd hready hs)
theorem sf {ro:Option Nat} {nn:Nat} {Q:Exit->Act->World->Prop} (hmix:P.follows .mixedOrders=true) {id:Nat} (ht:Tr P qf all.toList (all.toList.zipIdx.map fun x=>(x.2,x.1)) E0 J0_ E' J') (hd:Um P all.toList qf=true) (hhi:J'.length<=hi)
  (a:Act) (Z:Mu) (w:World) (hR:R P Z J0_ w) (hfr:GL Z J0_.length hi) (hreg:Kx Z E0 a.tmps)
  (hQ:∀ (a':Act) (Z':Mu) (w':World),R P Z' J' w'->Step Z J0_ w Z' J' w'->Kx Z' E' a'.tmps->a'.defers=a.defers->a'.tmps.size=a.tmps.size->(∀ t,(∀ o ∈ all.toList,o.dst≠some t)->a'.tmps[t]?=a.tmps[t]?)->Q .normal a' w'):
  (Code.region id all true).wpIn (FW ro) nn P Q a w:=by
 obtain ⟨D⟩:=sX ht;have hd':=dX hd;refine wpIn_region_any hmix ?_;have hrep:∀ j,¬ L (Array.replicate all.size false) j:=by
  intro j hl;unfold L at hl;by_cases hj:j<all.size <;> simp[hj] at hl
 refine j5 (hi:=hi) (Z0_:=Z) (w0:=w) D hd' a ?_ hreg.1 (by
  intro t b hb;obtain ⟨v',h1,h2⟩:=hreg.2 t _ hb;obtain ⟨k,hk,_⟩:=Z0 h2;rw[D.sn];rcases zL b.block J0_.length with h | h
  ·exact .inl h
  ·rcases zL b.block hi with h' | h'
   ·rw[hfr b.block h h'] at hk; cases hk
   ·exact .inr (by omega)) all.size (Array.replicate all.size false) a Z _ (by simp) (by simp[List.count_replicate]) (fun i o _ hl=>absurd hl (hrep i)) ?_ ?_ rfl rfl fun _ _=>rfl
 ·intro a' Z' w' h1 h2 h3 h4 h5 h6;exact hQ a' Z' w' h1 h2 h3 h4 h5 h6
 ·obtain ⟨m,h1,h2,h3,h4⟩:=XF P qf all.toList all.toList.length 0 (by simp);have hfresh:∀ j,j<all.toList.length->GL Z (D.Sf j).length (D.Sf (j+1)).length:=by
   intro j hj;refine hfr.sub ?_ ?_
   ·have:=D.HF (i:=0) j (zh _) (by omega);rw[D.s0] at this; exact this
   ·have:=D.HF (i:=j+1) all.toList.length hj (yj _);rw[D.sn] at this; omega
  refine ⟨⟨m,h2, ?_,h4, ?_⟩,fun j hj _=>hfresh j hj,fun _ _=>rfl, ?_,fun j _ hl=>absurd hl (hrep j),yj _,rfl,rfl,rfl,fun _ _ _=>rfl⟩
  ·intro j hj hc;constructor
   ·intro hl; exact absurd hl (hrep j)
   ·intro hlt; exact absurd hc (h3 j (zh _) hlt)
  ·have hR':R P Z (D.Sf 0) w.drew:=by rw[D.s0]; exact hR.drew
   exact hR'.extend (D.chain m h1 h2 h3) (RL D m h1 h2 fun k _ hk=>hfresh k (by omega))
  ·intro h k hh1 hh2 hk;have:Z h=none:=hfr h (by rw[D.s0] at hh1; exact hh1) (by rw[D.sn] at hh2; omega);rw[this] at hk; cases hk
 ·intro t;refine ⟨0,zh _,fun j o _ _=>⟨fun hl=>absurd hl (hrep j),fun h=>by omega⟩,fun v hv=>?_⟩;rw[D.e0] at hv;exact hreg.2 t v hv
end
end
end Go.AX
