/- The document's allocator: holes, lines, Alloc.; The document's allocator: lines, Alloc. -/
import Derived.Test.YtlaplcglpnlieaaGreatP21
set_option linter.unusedVariables false
set_option linter.unusedSimpArgs false
set_option linter.unusedSectionVars false
section
namespace Go.Proofs.YtlaplcglpnlieaaGreat
open Go Go.AX
noncomputable local instance vD:AF:=Au
local instance ux:Kn:=⟨true⟩
variable {σ:Aa} {m:HM} {t:RM} {j:RI} {rb:Nat} {a:AS}
def Vk (l:List (Nat × Nat)):List (Nat × Nat):=l.set (l.length-1) ((l.getD (l.length-1) (0,0)).1,(l.getD (l.length-1) (0,0)).2+1)
def MU (ls:List Bool):Nat→List (Nat × Nat)
 | 0=>[]
 | x+1=>if ls.getD x false=true then MU ls x else if 0<x∧ls.getD (x-1) false=false then Vk (MU ls x) else MU ls x++[(x,1)]
theorem UJ (l:List (Nat × Nat)):(Vk l).length=l.length:=by simp[Vk]
theorem jR (ls:List Bool):∀ x,0<x→ls.getD (x-1) false=false→MU ls x≠[]
 | 0,h,_=>by omega
 | x+1,_,h=>by
   rw[show x+1-1=x from rfl] at h
   unfold MU
   rw[if_neg (by rw[h]; decide)]
   split
   ·rename_i q
    have:=jR ls x q.1 q.2
    intro e
    have e2:=UJ (MU ls x)
    rw[e] at e2
    exact this (List.length_eq_zero_iff.1 e2.symm)
   ·simp
theorem fm (ls:List Bool):∀ x,(MU ls x).length≤x
 | 0=>Nat.le_refl _
 | x+1=>by
   have:=fm ls x
   unfold MU
   split
   ·omega
   ·split
    ·rw[UJ]; omega
    ·rw[List.length_append,List.length_singleton]; omega
theorem jQ (ls:List Bool):∀ x,∀ g ∈ MU ls x,g.1≤x∧g.2≤x
 | 0,g,h=>by simp[MU] at h
 | x+1,g,h=>by
   have ih:=jQ ls x
   unfold MU at h
   split at h
   ·have:=ih g h; omega
   ·split at h
    ·rename_i q
     have hne:=jR ls x q.1 q.2
     unfold Vk at h
     rcases List.mem_or_eq_of_mem_set h with h | h
     ·have:=ih g h; omega
     ·have hp:(MU ls x).length-1<(MU ls x).length:=by have:=List.length_pos_iff.2 hne; omega
      have:=ih _ (List.getElem_mem hp)
      rw[List.getD_eq_getElem?_getD,List.getElem?_eq_getElem hp] at h
      rw[h]
      simp only[Option.getD_some]
      omega
    ·rcases List.mem_append.1 h with h | h
     ·have:=ih g h; omega
     ·simp at h; subst h; dsimp only; omega
theorem Zl:∀ (R:List (Nat × Nat)) (x:Nat) (v:Nat),x<R.length→(AL R).set (x*2+1) (.int .i64 (v:Int))=AL (R.set x ((R.getD x (0,0)).1,v))
 | g::R,0,v,h=>by simp[AL]
 | g::R,x+1,v,h=>by
   have ih:=Zl R x v (by simpa using h)
   rw[show (x+1)*2+1=x*2+1+1+1 from by omega]
   simp only[AL,List.set_cons_succ,ih,List.getD_cons_succ]
theorem Rj (k:Nat) {ls:List Bool} (hls:ls.length≤8) {s:E8} (hs:BQ Eg 1 σ s ls.length (Gf ls)):∀ (n x f:Nat) (τ:Aa) (o:E8),x+n=ls.length→BQ Af 2 (σ++τ) o (MU ls x).length (AL (MU ls x))→(∀ y,o.1=some y→σ.length≤y.block)→n<f →
  ∃ τ' o',GU k f s.1 ls.length s.2.2 o (x:Int) (σ++τ)=some (.exit 0,[.slice o'.1 o'.2.1 o'.2.2],σ++τ')∧BQ Af 2 (σ++τ') o' (MU ls ls.length).length (AL (MU ls ls.length)) ∧ ∀ y,o'.1=some y→σ.length≤y.block
 | n,x,0,τ,o,hx,ho,hb,hf=>by omega
 | 0,x,f+1,τ,o,hx,ho,hb,hf=>by
   obtain rfl:x=ls.length:=by omega
   rw[P3,Od]
   exact ⟨τ,o,by simp only[decide_eq_false (Int.lt_irrefl _),cond_false],ho,hb⟩
 | n+1,x,f+1,τ,o,hx,ho,hb,hf=>by
   have hxl:x<ls.length:=by omega
   have hs1:=hs.app τ
   obtain ⟨b,e0,l0⟩:=ZE hs1 hxl
   have qx:(0≤(x:Int)∧(x:Int)<((ls.length:Nat):Int))=True:=eq_true (by omega)
   have w1:Ac ((x:Int)+1)=((x+1:Nat):Int):=Ad (by unfold AW; omega)
   have hl:=fm ls x
   rw[P3,Od]
   simp only[decide_eq_true (show (x:Int)<((ls.length:Nat):Int) by omega),cond_true,qx,if_true,e0,Option.bind_some,Int.toNat_natCast,Nat.zero_add,Nat.mul_one,l0,w1]
   by_cases q:ls.getD x false=true
   ·rw[q]
    obtain ⟨τ1,o1,e1,g1⟩:=Rj k hls hs n (x+1) f τ o (by omega) (by rw[MU,if_pos q]; exact ho) hb (by omega)
    rw[e0] at e1
    exact ⟨τ1,o1,by simp only[cond_true]; exact e1,g1⟩
   ·have q':ls.getD x false=false:=by simpa using q
    rw[q']
    simp only[cond_false]
    by_cases q2:0<x∧ls.getD (x-1) false=false
    ·have w2:Ac ((x:Int)-1)=((x-1:Nat):Int):=by rw[Ad (by unfold AW; omega)]; omega
     obtain ⟨_,e0',l0'⟩:=ZE hs1 (show x-1<ls.length by omega)
     rw[e0] at e0'; cases e0'
     have hne:=jR ls x q2.1 q2.2
     have hp:0<(MU ls x).length:=List.length_pos_iff.2 hne
     have w3:Ac ((((MU ls x).length:Nat):Int)-1)=(((MU ls x).length-1:Nat):Int):=by rw[Ad (by unfold AW; omega)]; omega
     obtain ⟨ob,f0,f1,f2⟩:=RJ ho (show (MU ls x).length-1<(MU ls x).length by omega)
     have hle:(((MU ls x).getD ((MU ls x).length-1) (0,0)).2:Int)≤1000:=by
      have hp':(MU ls x).length-1<(MU ls x).length:=by omega
      have:=jQ ls x _ (List.getElem_mem hp')
      rw[List.getD_eq_getElem?_getD,List.getElem?_eq_getElem hp']
      simp only[Option.getD_some]; omega
     have w4:Ac ((((MU ls x).getD ((MU ls x).length-1) (0,0)).2:Int)+1)=((((MU ls x).getD ((MU ls x).length-1) (0,0)).2+1:Nat):Int):=Ad (by unfold AW; omega)
     have q3:(0≤(((MU ls x).length-1:Nat):Int)∧(((MU ls x).length-1:Nat):Int)<(((MU ls x).length:Nat):Int))=True:=eq_true (by omega)
     have q4:(0≤((x-1:Nat):Int)∧((x-1:Nat):Int)<((ls.length:Nat):Int))=True:=eq_true (by omega)
     have hcell:(σ++τ)[ob]?=some (.cells (AL (MU ls x)) Af true)∧o=(some ⟨ob,0,none⟩,(MU ls x).length,(MU ls x).length):=by
      rcases ho with ⟨z,_,_⟩ | ⟨b',rfl,_,_,hc⟩
      ·omega
      ·simp at f0; subst f0; exact ⟨hc,rfl⟩
     obtain ⟨hc,hoe⟩:=hcell
     have hst:G0 (σ++τ) ob (((MU ls x).length-1)*2+1) (.int .i64 ((((MU ls x).getD ((MU ls x).length-1) (0,0)).2+1:Nat):Int))=some ((σ++τ).set ob (.cells (AL (Vk (MU ls x))) Af true)):=by
      simp only[G0,hc]
      rw[if_pos (by rw[KG]; omega),Zl _ _ _ (by omega)]
      rfl
     have gr:EW (σ++τ) o ((σ++τ).set ob (.cells (AL (Vk (MU ls x))) Af true)) o:=⟨by simp,fun q hq hn=>List.getElem?_set_ne (fun e=>hn _ f0 e),.inl rfl⟩
     obtain ⟨⟨τ2,hτ2⟩,_⟩:=gr.behind hb
     have ho2:BQ Af 2 (σ++τ2) o (MU ls (x+1)).length (AL (MU ls (x+1))):=by
      rw[MU,if_neg q,if_pos q2,← hτ2]
      exact .inr ⟨ob,by rw[UJ]; exact hoe,Nat.zero_le _,KG _,by rw[List.getElem?_set_self (Ae hc)]⟩
     obtain ⟨τ1,o1,e1,g1⟩:=Rj k hls hs n (x+1) f τ2 o (by omega) ho2 hb (by omega)
     rw[e0] at e1
     refine ⟨τ1,o1, ?_,g1⟩
     simp only[decide_eq_true (show (x:Int)>0 by omega),cond_true,w2,q4,if_true,Option.bind_some,Int.toNat_natCast,l0',q2.2,Bool.not_false,ho.len,w3,q3,f0,Nat.zero_add,f2,w4,hst,hτ2,F7]
     rw[show o.2.2=(MU ls x).length from by rw[hoe]]
     rw[hoe] at e1
     exact (F7 ((some ⟨ob,0,none⟩,(MU ls x).length,(MU ls x).length):E8) _).trans e1
    ·have hst2:∃ τ2 o2,Bv P Af (o.1,o.2.1,o.2.2) (some ⟨(σ++τ).length,0,none⟩,1,1) (σ++τ++[Bi.cells [.int .i64 (x:Int),.int .i64 (1:Int)] Af true])=some (o2,σ++τ2)∧BQ Af 2 (σ++τ2) o2 (MU ls (x+1)).length (AL (MU ls (x+1))) ∧ ∀ y,o2.1=some y→σ.length≤y.block:=by
      obtain ⟨o2,τ2,e,g,hb2⟩:=MN cq au c9 rfl rfl (by decide) (by decide) (by decide) σ τ o (MU ls x).length (AL (MU ls x)) 1 1 [.int .i64 (x:Int),.int .i64 (1:Int)] Af (by omega) (by decide) rfl ho hb
      refine ⟨τ2,o2,e, ?_,hb2⟩
      rw[MU,if_neg q,if_neg q2,Jv,List.length_append]
      exact g
     obtain ⟨τ2,o2,e2,g2,hb2⟩:=hst2
     obtain ⟨τ1,o1,e1,g1⟩:=Rj k hls hs n (x+1) f τ2 o2 (by omega) g2 hb2 (by omega)
     rw[e0] at e1
     refine ⟨τ1,o1, ?_,g1⟩
     have hcond:(bif decide ((x:Int)>0) then if 0≤Ac ((x:Int)-1)∧Ac ((x:Int)-1)<((ls.length:Nat):Int) then (WS (σ++τ) b (Ac ((x:Int)-1)).toNat).bind fun b6=>some (!b6,σ++τ) else none else some (false,σ++τ))=some (false,σ++τ):=by
      by_cases q5:0<x
      ·have w2:Ac ((x:Int)-1)=((x-1:Nat):Int):=by rw[Ad (by unfold AW; omega)]; omega
       obtain ⟨_,e0',l0'⟩:=ZE hs1 (show x-1<ls.length by omega)
       rw[e0] at e0'; cases e0'
       have:ls.getD (x-1) false=true:=by
        cases hh:ls.getD (x-1) false with
        | true=>rfl
        | false=>exact absurd ⟨q5,hh⟩ q2
       rw[decide_eq_true (show (x:Int)>0 by omega),cond_true,w2,if_pos (by omega),Int.toNat_natCast,l0',this]; rfl
      ·rw[decide_eq_false (show ¬ (x:Int)>0 by omega)]; rfl
     rw[hcond]
     simp only[Option.bind_some,cond_false,Ap,e2,if_true,F7]
     exact e1
theorem mR (k:Nat) (hk:5000≤k) (h:RG σ j m t) (b:Int):∃ τ o,J9 (k+5) (Ci j) b σ=some (.slice o.1 o.2.1 o.2.2,σ++τ)∧BQ Af 2 (σ++τ) o (MU (Er m b) (Er m b).length).length (AL (MU (Er m b) (Er m b).length)) ∧ ∀ y,o.1=some y→σ.length≤y.block:=by
 obtain ⟨τ,s,e1,g1,lo1⟩:=mS k hk h b
 have hl:=Q2 m b
 obtain ⟨τ2,o,e2,g2,lo2⟩:=Rj (σ:=σ++τ) (k+4) hl g1 (Er m b).length 0 (k+4) [] (none,0,0) (by omega) (BQ.nil _ _ _) (fun y hy=>by cases hy) (by omega)
 rw[List.append_nil,show ((0:Nat):Int)=0 from rfl] at e2
 refine ⟨τ++τ2,o, ?_,by rw[← List.append_assoc]; exact g2,fun y hy=>by have:=lo2 y hy; simp at this; omega⟩
 rw[Yo,VQ]
 simp only[e1,Option.bind_some,H7,g1.len,e2,if_true,F7,List.append_assoc]
set_option maxRecDepth 10000 in
theorem oq:∀ (ls:List Bool),ls.length=8∨ls=[]→MU ls ls.length=(Wb ls 9 0).map fun g=>(g.1,g.2-g.1):=by
 rintro ls (h | rfl)
 ·match ls,h with
  | [b0,b1,b2,b3,b4,b5,b6,b7],_=>
    cases b0 <;> cases b1 <;> cases b2 <;> cases b3 <;> cases b4 <;> cases b5 <;> cases b6 <;> cases b7 <;> rfl
 ·rfl
end Go.Proofs.YtlaplcglpnlieaaGreat
end
section
namespace Go.Proofs.YtlaplcglpnlieaaGreat
open Go Go.AX
noncomputable local instance vE:AF:=Au
local instance uy:Kn:=⟨true⟩
variable {σ:Aa} {m:HM} {t:RM} {j:RI} {rb:Nat} {a:AS}
def NQ (r d c:Int):Bi:=.cells [.int .i64 r,.int .i64 d,.int .i64 c] Al true
theorem N9 {μ:Aa} {q:Nat} {r d c:Int} (h:μ[q]?=some (NQ r d c)):Ai .i64 μ q 0=some r∧Ai .i64 μ q 1=some d∧Ai .i64 μ q 2=some c:=by
 unfold NQ at h; simp[Ai,Gy,h,BA]
def oP (m:HM) (a:AS) (x y w:Int):PR:=((x,true),m,a.put false (x+w) y)
def nA (mm:Option Ay) (σ:Aa) (j:RI) (rb:Nat) (vs:List Value) (m':HM) (a':AS):Prop:=
 ∃ σ' j' t',mm=some (.ret,vs,σ')∧TD σ' j' rb m' t' a'∧Em j j' rb σ σ'
theorem Za (k:Nat) (hk:5000≤k) (ho:a.ok) {r d c:Int} {w:Int} (hv:valid r d c=true) (hw:words r d c=w) (hw2:¬ w>32) (hb:m.births<1000000) {b:Nat} (hbl:b<64) {h2:Nat} {R:List (Nat × Nat)} (hR:R.length≤8) (hRb:∀ g ∈ R,g.1≤8∧g.2≤8) (s:E8) (h:TD σ j rb m t a) (hs:BQ Af 2 σ s R.length (AL R)) (hs2:∀ y,s.1=some y→y.block ∉ j.l∧y.block≠rb) (hbx:σ[h2]?=some (NQ r d c)):∀ (n x f:Nat),x+n=R.length→n<f →
  (match (R.drop x).find? (fun g=>decide (64*(b:Int)+8*(g.1:Int)≥a.l)) with
   | none=>Cy (k+8) f (D8 rb) w h2 (b:Int) s.1 R.length s.2.2 (x:Int) σ=some (.exit 2,[],σ)
   | some g=>nA (Cy (k+8) f (D8 rb) w h2 (b:Int) s.1 R.length s.2.2 (x:Int) σ) σ j rb [.int .i64 (Bj m a r d c (oP m a (64*(b:Int)+8*(g.1:Int)) (64*(b:Int)+8*((g.1+g.2:Nat):Int)) w)).1.1,.int .i64 (Bj m a r d c (oP m a (64*(b:Int)+8*(g.1:Int)) (64*(b:Int)+8*((g.1+g.2:Nat):Int)) w)).1.2] (Bj m a r d c (oP m a (64*(b:Int)+8*(g.1:Int)) (64*(b:Int)+8*((g.1+g.2:Nat):Int)) w)).2.1 (Bj m a r d c (oP m a (64*(b:Int)+8*(g.1:Int)) (64*(b:Int)+8*((g.1+g.2:Nat):Int)) w)).2.2)
 | n,x,0,hx,hf=>by omega
 | 0,x,f+1,hx,hf=>by
   rw[List.drop_of_length_le (by omega)]
   simp only[List.find?_nil]
   rw[Jd,Hd]
   simp only[decide_eq_false (show ¬ (x:Int)<((R.length:Nat):Int) by omega),cond_false]
 | n+1,x,f+1,hx,hf=>by
   have hxl:x<R.length:=by omega
   obtain ⟨q,e0,l0,l1⟩:=RJ hs hxl
   have eg:R.getD x (0,0)=R[x]:=by rw[List.getD_eq_getElem?_getD,List.getElem?_eq_getElem hxl]; rfl
   rw[eg] at l0 l1
   have hg:=hRb _ (List.getElem_mem hxl)
   have hwp:=G1 hv
   rw[hw] at hwp
   have hl0:=ho.l0
   have qx:(0≤(x:Int)∧(x:Int)<((R.length:Nat):Int))=True:=eq_true (by omega)
   have w1:Ac ((x:Int)+1)=((x+1:Nat):Int):=Ad (by unfold AW; omega)
   have w2:Ac ((b:Int)*64)=64*(b:Int):=by rw[Ad (by unfold AW; omega)]; omega
   have w3:Ac (((R[x]).1:Int)*8)=8*((R[x]).1:Int):=by rw[Ad (by unfold AW; omega)]; omega
   have w4:Ac (64*(b:Int)+8*((R[x]).1:Int))=64*(b:Int)+8*((R[x]).1:Int):=Ad (by unfold AW; omega)
   have w5:Ac (((R[x]).2:Int)*8)=8*((R[x]).2:Int):=by rw[Ad (by unfold AW; omega)]; omega
   have w6:Ac (64*(b:Int)+8*((R[x]).1:Int)+w)=64*(b:Int)+8*((R[x]).1:Int)+w:=Ad (by unfold AW; omega)
   have w7:Ac (64*(b:Int)+8*((R[x]).1:Int)+8*((R[x]).2:Int))=64*(b:Int)+8*(((R[x]).1+(R[x]).2:Nat):Int):=by rw[Ad (by unfold AW; omega)]; omega
   obtain ⟨b0,b1,b2⟩:=N9 hbx
   have ih:=Za k hk ho hv hw hw2 hb hbl hR hRb s h hs hs2 hbx n (x+1) f (by omega) (by omega)
   rw[List.drop_eq_getElem_cons hxl,List.find?_cons,Jd,Hd]
   simp only[decide_eq_true (show (x:Int)<((R.length:Nat):Int) by omega),cond_true,qx,if_true,e0,Option.bind_some,Int.toNat_natCast,Nat.zero_add,Nat.add_zero,l0,h.al.l4,w1,w2,w3,w4]
   rw[e0] at ih
   by_cases q1:64*(b:Int)+8*((R[x]).1:Int)≥a.l
   ·simp only[decide_eq_true q1,decide_eq_false (show ¬ 64*(b:Int)+8*((R[x]).1:Int)<a.l by omega),cond_false,Nat.reduceAdd,b0,b1,b2,Option.bind_some]
    obtain ⟨μ1,j1,t1,e1,h1,K1⟩:=S7 (k+2) (by omega) h (x:=64*(b:Int)+8*((R[x]).1:Int)) (by omega) 0 (r:=r) (d:=d) (c:=c) hb (m1:=m) rfl
    have e1':Aw (k+8) (D8 rb) (64*(b:Int)+8*((R[x]).1:Int)) 0 r d c σ=_:=e1
    rw[Vr (m1:=m) hv (by rw[hw]; exact hw2) rfl rfl]
    unfold oP
    dsimp only
    have hsl:BQ Af 2 μ1 s R.length (AL R):=hs.CT fun y hy=>K1.same _ (hs.lt y hy) (hs2 y hy).1 (hs2 y hy).2
    obtain ⟨q',e0',_,l1'⟩:=RJ hsl hxl
    rw[e0] at e0'; cases e0'
    rw[eg] at l1'
    generalize gp m a.s (64*(b:Int)+8*((R[x]).1:Int)) r d c=pl at *
    simp only[e1',Option.bind_some,E6]
    by_cases qc:pl.1.2=0
    ·rw[if_pos qc]
     have s1:=h1.al.G0 3 (.int .i64 (64*(b:Int)+8*((R[x]).1:Int)+w)) { a with c:=64*(b:Int)+8*((R[x]).1:Int)+w } rfl (by decide)
     have h2':=h1.RH { a with c:=64*(b:Int)+8*((R[x]).1:Int)+w }
     have s2:=h2'.al.G0 4 (.int .i64 (64*(b:Int)+8*(((R[x]).1+(R[x]).2:Nat):Int))) (a.put false (64*(b:Int)+8*((R[x]).1:Int)+w) (64*(b:Int)+8*(((R[x]).1+(R[x]).2:Nat):Int))) rfl (by decide)
     have h3:=h2'.RH (a.put false (64*(b:Int)+8*((R[x]).1:Int)+w) (64*(b:Int)+8*(((R[x]).1+(R[x]).2:Nat):Int)))
     simp only[show (pl.1.2 == 0)=true from by simpa using qc,cond_true,l1',Option.bind_some,w5,w6,w7,s1,s2,if_true]
     exact ⟨_,j1,t1,rfl,h3,(K1.trans (Em.set _ _ _)).trans (Em.set _ _ _)⟩
    ·rw[if_neg qc]
     simp only[show (pl.1.2 == 0)=false from by simpa using qc,cond_false,Option.bind_some,if_true]
     exact ⟨μ1,j1,t1,rfl,h1,K1⟩
   ·simp only[decide_eq_false q1,decide_eq_true (show 64*(b:Int)+8*((R[x]).1:Int)<a.l by omega),cond_true]
    exact ih
def O1 (m:HM) (s:Int) (x n:Nat):List Nat:=(List.range' x n).filter fun b=>decide ((m.bls.getD b (0,0)).1=1∧(m.bls.getD b (0,0)).2=s)
theorem Xf (m:HM) (s:Int) (x n:Nat):O1 m s x (n+1)=if (m.bls.getD x (0,0)).1=1∧(m.bls.getD x (0,0)).2=s then x::O1 m s (x+1) n else O1 m s (x+1) n:=by
 unfold O1
 rw[List.range'_succ,List.filter_cons]
 by_cases q:(m.bls.getD x (0,0)).1=1∧(m.bls.getD x (0,0)).2=s
 ·rw[if_pos q,if_pos (decide_eq_true q)]
 ·rw[if_neg q,if_neg (by rw[decide_eq_false q]; decide)]
theorem g9 (h0:B0 m) (hn:1≤m.bls.length) (s:Int):Bg m s m.bls.length=O1 m s 1 (m.bls.length-1):=by
 have e:Bg m s m.bls.length=O1 m s 0 m.bls.length:=by unfold Bg O1; rw[List.range_eq_range']
 rw[e]
 obtain ⟨n,hn'⟩:∃ n,m.bls.length=n+1:=⟨m.bls.length-1,by omega⟩
 rw[hn',Xf,if_neg (by unfold B0 at h0; omega)]
 rfl
theorem my (m:HM) {b:Nat} (hb:b<m.bls.length) (hst:(m.bls.getD b (0,0)).1=1) (lim:Int):
  Su (Er m (b:Int)) b lim 9 0=((MU (Er m (b:Int)) (Er m (b:Int)).length).find? fun g=>decide (64*(b:Int)+8*(g.1:Int)≥lim)).map fun g=>(g.1,g.1+g.2):=by
 have hl:(Er m (b:Int)).length=8:=by
  unfold Er
  rw[if_pos (by unfold Ih; rw[if_pos (by omega),Int.toNat_natCast]; exact hst),Ml]
 rw[oq _ (.inl hl),List.find?_map,Option.map_map]
 unfold Su
 have e:((fun g:Nat × Nat=>decide (64*(b:Int)+8*(g.1:Int)≥lim)) ∘ fun g:Nat × Nat=>(g.1,g.2-g.1))=fun g=>decide (64*(b:Int)+8*(g.1:Int)≥lim):=rfl
 rw[e]
 cases hf:(Wb (Er m (b:Int)) 9 0).find? (fun g=>decide (64*(b:Int)+8*(g.1:Int)≥lim)) with
 | none=>rfl
 | some g=>
   have:=WJ (List.mem_of_find?_eq_some hf)
   simp only[Option.map_some,Function.comp]
   congr 1
   obtain ⟨x,y⟩:=g
   dsimp only at *
   congr 1; omega
theorem UM (k:Nat) (hk:5000≤k) (ho:a.ok) {r d c:Int} {w:Int} (hv:valid r d c=true) (hw:words r d c=w) (hw2:¬ w>32) (hb:m.births<1000000) {h2:Nat} (hn2:h2 ∉ j.l) (hn3:h2≠rb):∀ (n x f:Nat) (σ:Aa),TD σ j rb m t a→σ[h2]?=some (NQ r d c)→x+n=m.bls.length→n<f →
  (match Nz m a.l (O1 m a.s x n) with
   | none=>∃ τ,Cx (k+8) f (D8 rb) w h2 (x:Int) σ=some (.exit 0,[],σ++τ)
   | some g=>nA (Cx (k+8) f (D8 rb) w h2 (x:Int) σ) σ j rb [.int .i64 (Bj m a r d c (oP m a (64*(g.1:Int)+8*(g.2.1:Int)) (64*(g.1:Int)+8*(g.2.2:Int)) w)).1.1,.int .i64 (Bj m a r d c (oP m a (64*(g.1:Int)+8*(g.2.1:Int)) (64*(g.1:Int)+8*(g.2.2:Int)) w)).1.2] (Bj m a r d c (oP m a (64*(g.1:Int)+8*(g.2.1:Int)) (64*(g.1:Int)+8*(g.2.2:Int)) w)).2.1 (Bj m a r d c (oP m a (64*(g.1:Int)+8*(g.2.1:Int)) (64*(g.1:Int)+8*(g.2.2:Int)) w)).2.2)
 | n,x,0,σ,h,hbx,hx,hf=>by omega
 | 0,x,f+1,σ,h,hbx,hx,hf=>by
   rw[show O1 m a.s x 0=[] from rfl,Nz]
   have eb:Bs (k+8) (Ci j) σ=_:=Q7 (k+6) h.g
   rw[Jc,Hc]
   exact ⟨[],by simp only[Option.bind_some,Nat.add_zero,h.al.XO,eb,Am,decide_eq_false (show ¬ (x:Int)<((m.bls.length:Nat):Int) by omega),cond_false,List.append_nil]⟩
 | n+1,x,f+1,σ,h,hbx,hx,hf=>by
   have hnt:=h.g.nt
   have hxl:x<m.bls.length:=by omega
   have eb:Bs (k+8) (Ci j) σ=_:=Q7 (k+6) h.g
   have e1:Bk (k+8) (Ci j) (x:Int) σ=_:=S6 (k+6) h.g (x:Int)
   have e2:Cd (k+8) (Ci j) (x:Int) σ=_:=Y1 (k+6) h.g (x:Int)
   have es:Ih m (x:Int)=(m.bls.getD x (0,0)).1:=by unfold Ih; rw[if_pos (by omega),Int.toNat_natCast]
   have ep:WN m (x:Int)=(m.bls.getD x (0,0)).2:=by unfold WN; rw[if_pos (by omega),Int.toNat_natCast]
   have w1:Ac ((x:Int)+1)=((x+1:Nat):Int):=Ad (by unfold AW; omega)
   have hcond:(bif (m.bls.getD x (0,0)).1 != 1 then some (true,σ) else some ((m.bls.getD x (0,0)).2 != a.s,σ))=some (!decide ((m.bls.getD x (0,0)).1=1∧(m.bls.getD x (0,0)).2=a.s),σ):=by
    by_cases q:(m.bls.getD x (0,0)).1=1
    ·rw[show ((m.bls.getD x (0,0)).1 != 1)=false from by simpa using q,cond_false]
     by_cases q2:(m.bls.getD x (0,0)).2=a.s
     ·rw[show ((m.bls.getD x (0,0)).2 != a.s)=false from by simpa using q2,decide_eq_true ⟨q,q2⟩]; rfl
     ·rw[show ((m.bls.getD x (0,0)).2 != a.s)=true from by simpa using q2,decide_eq_false (fun hh=>q2 hh.2)]; rfl
    ·rw[show ((m.bls.getD x (0,0)).1 != 1)=true from by simpa using q,cond_true,decide_eq_false (fun hh=>q hh.1)]; rfl
   rw[Xf,Jc,Hc]
   simp only[Option.bind_some,Nat.add_zero,Nat.zero_add,h.al.XO,eb,Am,decide_eq_true (show (x:Int)<((m.bls.length:Nat):Int) by omega),cond_true,e1,e2,es,ep,h.al.l1,w1]
   rw[hcond]
   by_cases q:(m.bls.getD x (0,0)).1=1∧(m.bls.getD x (0,0)).2=a.s
   ·rw[if_pos q,Nz,my m hxl q.1]
    simp only[decide_eq_true q,Bool.not_true,Option.bind_some,cond_false,h.al.XO]
    obtain ⟨τ,s,e3,g3,lo3⟩:=mR (k+3) (by omega) h.g (x:Int)
    have e3':J9 (k+8) (Ci j) (x:Int) σ=_:=e3
    have hl8:=Q2 m (x:Int)
    have hhl:=fm (Er m (x:Int)) (Er m (x:Int)).length
    have hle:=jQ (Er m (x:Int)) (Er m (x:Int)).length
    have hslo:∀ y,s.1=some y→y.block ∉ j.l∧y.block≠rb:=fun y hy=>by
     have h1:=lo3 y hy
     have h2:=Ae h.al
     exact ⟨fun hm=>by have:=h.g.at_.lt _ hm; omega,by omega⟩
    have hbx1:(σ++τ)[h2]?=some (NQ r d c):=by rw[List.getElem?_append_left (Ae hbx)]; exact hbx
    have l1:=Za k hk ho hv hw hw2 hb (b:=x) (by omega) (h2:=h2) (R:=MU (Er m (x:Int)) (Er m (x:Int)).length) (by omega) (fun g hg=>by have:=hle g hg; omega) s (h.app τ) g3 hslo hbx1 (MU (Er m (x:Int)) (Er m (x:Int)).length).length 0 (k+8) (by omega) (by omega)
    rw[List.drop_zero,show ((0:Nat):Int)=0 from rfl] at l1
    simp only[e3',Option.bind_some,H7,g3.len]
    cases hf':(MU (Er m (x:Int)) (Er m (x:Int)).length).find? (fun g=>decide (64*(x:Int)+8*(g.1:Int)≥a.l)) with
    | some g=>
      rw[hf'] at l1
      obtain ⟨σ',j',t',e4,h4,K4⟩:=l1
      simp only[Option.map_some]
      refine ⟨σ',j',t', ?_,h4,(Em.app j σ τ).trans K4⟩
      simp only[e4,Option.bind_some,show (Bm.ret=Bm.exit 2)=False from by simp,if_false,if_true,GK]
    | none=>
      rw[hf'] at l1
      simp only[Option.map_none,l1,Option.bind_some,if_true]
      have ih:=UM k hk ho hv hw hw2 hb hn2 hn3 n (x+1) f (σ++τ) (h.app τ) hbx1 (by omega) (by omega)
      cases hh:Nz m a.l (O1 m a.s (x+1) n) with
      | none=>
        rw[hh] at ih
        obtain ⟨τ2,e5⟩:=ih
        exact ⟨τ++τ2,by rw[e5,List.append_assoc]⟩
      | some g=>
        rw[hh] at ih
        obtain ⟨σ',j',t',e5,h5,K5⟩:=ih
        exact ⟨σ',j',t',e5,h5,(Em.app j σ τ).trans K5⟩
   ·rw[if_neg q]
    simp only[decide_eq_false q,Bool.not_false,Option.bind_some,cond_true]
    exact UM k hk ho hv hw hw2 hb hn2 hn3 n (x+1) f σ h hbx (by omega) (by omega)
theorem ib {w:Int} (q:¬ a.l-a.c≥w) (q2:¬ w>8) {g:Nat × Nat × Nat} (hg:Nz m a.l (Bg m a.s m.bls.length)=some g):Gs m a w=oP m a (64*(g.1:Int)+8*(g.2.1:Int)) (64*(g.1:Int)+8*(g.2.2:Int)) w:=by
 have e1:JZ m a=(64*(g.1:Int)+8*(g.2.1:Int),64*(g.1:Int)+8*(g.2.2:Int),true):=by unfold JZ; rw[hg]
 have e2:Lf m a=m:=by unfold Lf; rw[hg]
 unfold Gs oP
 rw[if_neg q,if_neg q2,e1,e2,if_pos rfl]
theorem ic {w:Int} (q:¬ a.l-a.c≥w) (q2:¬ w>8) (hg:Nz m a.l (Bg m a.s m.bls.length)=none):Gs m a w=CA m a false w:=by
 have e1:JZ m a=Wn m:=by unfold JZ; rw[hg]
 have e2:Lf m a=Sd m a.s:=by unfold Lf; rw[hg]
 unfold Gs CA
 rw[if_neg q,if_neg q2,if_neg (show ¬ a.li false-a.cu false≥w from q),e1,e2]
 unfold Wn Sd
 cases Hs m with
 | none=>rfl
 | some b=>rfl
theorem mZ (k:Nat) (hk:5000≤k) (h:TD σ j rb m t a) (ho:a.ok) {r d c w:Int} (hv:valid r d c=true) (hw:words r d c=w) (hw2:¬ w>32) (hb:m.births<1000000):
  Rw (Fc (k+9) (D8 rb) r d c w σ) σ j rb (.tuple #[.int .i64 (Bj m a r d c (Gs m a w)).1.1,.int .i64 (Bj m a r d c (Gs m a w)).1.2]) (Bj m a r d c (Gs m a w)).2.1 (Bj m a r d c (Gs m a w)).2.2:=by
 have hc0:=ho.c0; have hl0:=ho.l0
 have hnt:=h.g.nt; have hnb:=h.g.nb
 have hwp:=G1 hv
 rw[hw] at hwp
 obtain ⟨μ0,hμ0⟩:∃ μ0,σ++[NQ r d c]=μ0:=⟨_,rfl⟩
 have h0:TD μ0 j rb m t a:=hμ0 ▸ h.app _
 have K0:Em j j rb σ μ0:=hμ0 ▸ Em.app j σ _
 have S0:μ0[σ.length]?=some (NQ r d c):=by rw[← hμ0]; simp
 obtain ⟨b0,b1,b2⟩:=N9 S0
 have wd:Ac (a.l-a.c)=a.l-a.c:=Ad (by unfold AW; omega)
 rw[Qr,M5]
 simp only[Ap,show (Bi.cells [Value.int .i64 r,.int .i64 d,.int .i64 c] Al true)=NQ r d c from rfl,hμ0,Option.bind_some,Nat.zero_add,Nat.reduceAdd,h0.al.l3,h0.al.l4,wd,b0,b1,b2]
 by_cases q:a.l-a.c≥w
 ·have e:Gs m a w=CA m a false w:=by
   unfold Gs CA; rw[if_pos q,if_pos (show a.li false-a.cu false≥w from q)]; rfl
  rw[e]
  obtain ⟨μ1,j1,t1,e1,h1,K1⟩:=bO k hk h0 ho hv hw hw2 hb
  simp only[decide_eq_true q,cond_true,e1,Option.bind_some,E6]
  exact ⟨μ1,j1,t1,rfl,h1,K0.trans K1⟩
 simp only[decide_eq_false q,cond_false]
 by_cases q2:w>8
 ·have e:Gs m a w=CA m a true w:=by unfold Gs; rw[if_neg q,if_pos q2]
  rw[e]
  obtain ⟨μ1,j1,t1,e1,h1,K1⟩:=pa k hk h0 ho hv hw hw2 hb
  simp only[decide_eq_true q2,cond_true,e1,Option.bind_some,E6]
  exact ⟨μ1,j1,t1,rfl,h1,K0.trans K1⟩
 simp only[decide_eq_false q2,cond_false]
 have hns:σ.length ∉ j.l:=fun hm=>Nat.lt_irrefl _ (h.g.at_.lt _ hm)
 have hnr:σ.length≠rb:=by have:=Ae h.al; omega
 have hl:=UM (h2:=σ.length) k hk ho hv hw hw2 hb hns hnr (m.bls.length-1) 1 (k+8) μ0 h0 S0 (by omega) (by omega)
 rw[← g9 h.M.b0 (by omega),show ((1:Nat):Int)=1 from rfl] at hl
 cases hh:Nz m a.l (Bg m a.s m.bls.length) with
 | some g=>
   rw[hh] at hl
   rw[ib q q2 hh]
   obtain ⟨μ1,j1,t1,e1,h1,K1⟩:=hl
   simp only[e1,Option.bind_some,show (Bm.ret=Bm.exit 0)=False from by simp,if_false,if_true,GK]
   exact ⟨μ1,j1,t1,rfl,h1,K0.trans K1⟩
 | none=>
   rw[hh] at hl
   rw[ic q q2 hh]
   obtain ⟨τ,e1⟩:=hl
   obtain ⟨μ1,j1,t1,e2,h1,K1⟩:=bO k hk (h0.app τ) ho hv hw hw2 hb
   have S1:(μ0++τ)[σ.length]?=some (NQ r d c):=by rw[List.getElem?_append_left (Ae S0)]; exact S0
   obtain ⟨c0,c1,c2⟩:=N9 S1
   simp only[e1,Option.bind_some,if_true,c0,c1,c2,e2,E6]
   exact ⟨μ1,j1,t1,rfl,h1,(K0.trans (Em.app _ _ _)).trans K1⟩
theorem jX {b:Nat} {c:Nat} {s:Int} (h:(Bp m (b:Int) (c:Int) 2 s 3 s).1=0) (hb:b<m.bls.length):LM (Bp m (b:Int) (c:Int) 2 s 3 s).2 ((64*(b:Int)).tdiv 64)=s:=by
 rw[show (64*(b:Int)).tdiv 64=(b:Int) from by rw[Int.tdiv_eq_ediv_of_nonneg (by omega)]; omega]
 unfold Bp at *
 split
 ·rename_i q
  rw[if_pos q] at h
  split
  ·rename_i q2
   unfold LM
   simp only[Int.toNat_natCast,List.length_set,Ft]
   rw[if_pos (by omega),List.getD_eq_getElem?_getD,List.getElem?_set_self (by rw[Ft]; exact hb)]
   rfl
  ·rename_i q2; rw[if_neg q2] at h; cases h
 ·rename_i q; rw[if_neg q] at h; cases h
theorem mO {m1:HM} {r d c:Int} {pr:PR} (hv:valid r d c=true) (hw:words r d c>32) (ho:pr.1.2=true) (hm:pr.2.1=m1) (ha:pr.2.2=a) (hs:LM m1 (pr.1.1.tdiv 64)=a.s):Bj m a r d c pr=((gp m1 a.s pr.1.1 r d c).1,(gp m1 a.s pr.1.1 r d c).2,a):=by
 unfold Bj gp
 rw[if_pos hv,if_pos ho,hm,if_pos hs,if_neg (show ¬ (¬ words r d c>32∧LM m1 (pr.1.1.tdiv 64)≠a.s) from fun hh=>hh.1 hw),ha]
 split <;> rfl
theorem qj {m1:HM} {s x r d c:Int} (h:(gp m1 s x r d c).1.2=0):(gp m1 s x r d c).1.1=x:=by
 unfold gp at *
 split at h
 ·cases h
 ·rename_i q
  rw[if_neg q]
  split at h
  ·rename_i q2; rw[if_pos q2]
  ·cases h
theorem jA (h:a.p=0∨a.p=1∨a.p=2) (w:Nat):B1 m a (V6 m a w).toList=(if a.p=2 then B1 m a (Bx m a.s a.c.toNat w++Bx m a.s 0 w) else if a.p=1 then g7 m a w else B1 m a (Bx m a.s 0 w)):=by
 have hd:∀ (l:List (Nat × Nat)),B1 m a l.head?.toList=B1 m a l:=fun l=>Zo (by cases l <;> rfl)
 unfold V6
 split
 ·exact hd _
 ·split
  ·rfl
  ·exact hd _
theorem mV (k:Nat) (hk:9000≤k) (h:TD σ j rb m t a) (ho:a.ok) (hb:m.births<1000000) (r d c:Int):
  Rw (Ej (k+10) (D8 rb) r d c σ) σ j rb (.tuple #[.int .i64 (Uq m a r d c).1.1,.int .i64 (Uq m a r d c).1.2]) (Uq m a r d c).2.1 (Uq m a r d c).2.2:=by
 have hnt:=h.g.nt; have hnb:=h.g.nb
 have p0:=ho.p0
 obtain ⟨μ0,hμ0⟩:∃ μ0,σ++[NQ r d c]=μ0:=⟨_,rfl⟩
 have h0:TD μ0 j rb m t a:=hμ0 ▸ h.app _
 have K0:Em j j rb σ μ0:=hμ0 ▸ Em.app j σ _
 have S0:μ0[σ.length]?=some (NQ r d c):=by rw[← hμ0]; simp
 obtain ⟨b0,b1,b2⟩:=N9 S0
 have e1:CI (k+9) (D8 rb) μ0=_:=ee (k+7) h0
 obtain ⟨τ1,e2⟩:=Tq (k+8) r d c μ0
 rw[Qp,M0]
 simp only[Ap,show (Bi.cells [Value.int .i64 r,.int .i64 d,.int .i64 c] Al true)=NQ r d c from rfl,hμ0,e1,Option.bind_some,As,Bool.not_true,cond_false,Nat.zero_add,Nat.reduceAdd,b0,b1,b2,e2]
 cases hv:valid r d c with
 | false=>
   simp only[Bool.not_false,cond_true]
   unfold Uq Bj
   rw[if_neg (by rw[hv]; decide)]
   exact ⟨μ0++τ1,j,t,rfl,h0.app _,K0.trans (Em.app _ _ _)⟩
 | true=>
   have hwp:=G1 hv
   obtain ⟨w,hw⟩:∃ w:Nat,words r d c=(w:Int):=⟨(words r d c).toNat,by omega⟩
   have S1:(μ0++τ1)[σ.length]?=some (NQ r d c):=by rw[List.getElem?_append_left (Ae S0)]; exact S0
   obtain ⟨c0,c1,c2⟩:=N9 S1
   obtain ⟨τ2,e3⟩:=Y0 (k+6) r d c (μ0++τ1)
   have e3':EL (k+9) r d c (μ0++τ1)=_:=e3
   obtain ⟨μ2,hμ2⟩:∃ μ2,μ0++τ1++τ2=μ2:=⟨_,rfl⟩
   rw[hμ2] at e3'
   have h2:TD μ2 j rb m t a:=hμ2 ▸ (h0.app _).app _
   have K2:Em j j rb σ μ2:=hμ2 ▸ (K0.trans (Em.app _ _ _)).trans (Em.app _ _ _)
   have S2:μ2[σ.length]?=some (NQ r d c):=by rw[← hμ2,List.getElem?_append_left (Ae S1)]; exact S1
   obtain ⟨d0,d1,d2⟩:=N9 S2
   simp only[Bool.not_true,cond_false,c0,c1,c2,Option.bind_some,e3',As,d0,d1,d2]
   unfold Uq
   rw[hw]
   rw[hw] at hwp
   by_cases q:(w:Int)>32
   ·obtain ⟨τ3,e4⟩:=iz (k+6) r d c μ2
    have e4':HK (k+9) r d c μ2=_:=e4
    obtain ⟨μ3,hμ3⟩:∃ μ3,μ2++τ3=μ3:=⟨_,rfl⟩
    rw[hμ3,hw] at e4'
    have h3:TD μ3 j rb m t a:=hμ3 ▸ h2.app _
    have K3:Em j j rb σ μ3:=hμ3 ▸ K2.trans (Em.app _ _ _)
    have S3:μ3[σ.length]?=some (NQ r d c):=by rw[← hμ3,List.getElem?_append_left (Ae S2)]; exact S2
    obtain ⟨n,hn⟩:∃ n,(w+63)/64=n:=⟨_,rfl⟩
    have en:((w:Int)+63).tdiv 64=(n:Int):=by rw[← hn]; rfl
    have hns:σ.length ∉ j.l:=fun hm=>Nat.lt_irrefl _ (h.g.at_.lt _ hm)
    have hnr:σ.length≠rb:=by have:=Ae h.al; omega
    have e5:=ZB (k+6) (by omega) h3.g h3.M.fz (c:=n) (by omega)
    have e5':E3 (k+9) (Ci j) (n:Int) μ3=_:=e5
    simp only[decide_eq_true q,cond_true,e4',Option.bind_some,Am,en,h3.al.XO,e5']
    rw[show Q6 m a (w:Int)=JN m a (w:Int) from if_pos q]
    have hlg:=bp (m:=m) (c:=n) ho.s0 (by omega) m.bls.length 1 (Nat.le_refl _)
    cases hf:cA m n m.bls.length 1 with
    | none=>
      rw[hf] at hlg
      have hpr:JN m a (w:Int)=((0,false),m,a):=by unfold JN; rw[Int.toNat_natCast,hn,hlg]
      have hX:Bj m a r d c (JN m a (w:Int))=((0,6),m,a):=by unfold Bj; rw[if_pos hv,hpr,if_neg (by dsimp only; decide)]
      rw[hX]
      simp only[beq_self_eq_true,cond_true]
      exact ⟨μ3,j,t,rfl,h3,K3⟩
    | some b=>
      rw[hf] at hlg
      obtain ⟨hb1,hb2⟩:=gW hf
      have hpr:JN m a (w:Int)=((64*(b:Int),true),(Bp m (b:Int) (n:Int) 2 a.s 3 a.s).2,a):=by unfold JN; rw[Int.toNat_natCast,hn,hlg]
      have hcode:(Bp m (b:Int) (n:Int) 2 a.s 3 a.s).1=0:=by
       have aux:∀ (n' x:Nat),cC m n a.s n' x=some b→(Bp m (b:Int) (n:Int) 2 a.s 3 a.s).1=0:=by
        intro n'
        induction n' with
        | zero=>intro x hx; cases hx
        | succ n' ih=>
          intro x hx
          unfold cC at hx
          split at hx
          ·split at hx
           ·rename_i qq; cases hx; exact qq
           ·exact ih _ hx
          ·cases hx
       exact aux _ _ hlg
      have hspc:=jX hcode (show b<m.bls.length by omega)
      have w1:Ac ((b:Int)*64)=64*(b:Int):=by rw[Ad (by unfold AW; omega)]; omega
      obtain ⟨μ4,j4,t4,e6,h4,K4⟩:=h3.rB (bL (k+7) (by omega) h3.g h3.P h3.M.fz (b:Int) (n:Int) a.s (by unfold AW; omega) (by unfold AW; omega)) (h3.M.YU _ _ _ _ _ _ (by decide) (.inl (by decide)))
      have e6':Eh (k+9) (Ci j) (b:Int) (n:Int) a.s μ3=_:=e6
      have S4:μ4[σ.length]?=some (NQ r d c):=by rw[K4.same _ (Ae S3) hns hnr]; exact S3
      obtain ⟨f0,f1,f2⟩:=N9 S4
      obtain ⟨μ5,j5,t5,e7,h5,K5⟩:=S7 (k+3) (by omega) h4 (x:=64*(b:Int)) (by omega) 0 (r:=r) (d:=d) (c:=c) (by rw[SY]; exact hb) (m1:=(Bp m (b:Int) (n:Int) 2 a.s 3 a.s).2) rfl
      have e7':Aw (k+9) (D8 rb) (64*(b:Int)) 0 r d c μ4=_:=e7
      have hX:=mO (m:=m) (a:=a) (m1:=(Bp m (b:Int) (n:Int) 2 a.s 3 a.s).2) (pr:=JN m a (w:Int)) hv (by rw[hw]; exact q) (by rw[hpr]) (by rw[hpr]) (by rw[hpr]) (by rw[hpr]; exact hspc)
      rw[hX,hpr]
      simp only[show (((b:Nat):Int) == 0)=false from by rw[beq_eq_false_iff_ne]; omega,cond_false,h3.al.l1,Option.bind_some,e6',Am,f0,f1,f2,w1,e7',E6]
      exact ⟨μ5,j5,t5,rfl,h5,(K3.trans K4).trans K5⟩
   ·obtain ⟨τ3,e4⟩:=HP (k+7) r d c μ2
    have e4':BP (k+9) r d c μ2=_:=e4
    obtain ⟨μ3,hμ3⟩:∃ μ3,μ2++τ3=μ3:=⟨_,rfl⟩
    rw[hμ3,hw] at e4'
    have h3:TD μ3 j rb m t a:=hμ3 ▸ h2.app _
    have K3:Em j j rb σ μ3:=hμ3 ▸ K2.trans (Em.app _ _ _)
    have S3:μ3[σ.length]?=some (NQ r d c):=by rw[← hμ3,List.getElem?_append_left (Ae S2)]; exact S2
    obtain ⟨f0,f1,f2⟩:=N9 S3
    simp only[decide_eq_false q,cond_false,e4',Option.bind_some,Am,h3.al.l2,f0,f1,f2]
    by_cases q3:a.p=3
    ·rw[show Q6 m a (w:Int)=CA m a false (w:Int) from by unfold Q6; rw[if_neg q,if_neg (by omega),if_neg (by omega),if_neg (by omega),if_pos q3]]
     obtain ⟨μ4,j4,t4,e5,h4,K4⟩:=bO (k+1) (by omega) h3 ho hv hw q hb
     simp only[show (a.p == 3)=true from by simpa using q3,cond_true,e5,Option.bind_some,E6]
     exact ⟨μ4,j4,t4,rfl,h4,K3.trans K4⟩
    simp only[show (a.p == 3)=false from by simpa using q3,cond_false]
    by_cases q4:a.p=4
    ·rw[show Q6 m a (w:Int)=Gs m a (w:Int) from by unfold Q6; rw[if_neg q,if_neg (by omega),if_neg (by omega),if_neg (by omega),if_neg (by omega)]]
     obtain ⟨μ4,j4,t4,e5,h4,K4⟩:=mZ k (by omega) h3 ho hv hw q hb
     simp only[show (a.p == 4)=true from by simpa using q4,cond_true,e5,Option.bind_some,E6]
     exact ⟨μ4,j4,t4,rfl,h4,K3.trans K4⟩
    simp only[show (a.p == 4)=false from by simpa using q4,cond_false]
    have hp3:a.p=0∨a.p=1∨a.p=2:=by omega
    have hS:=jA (m:=m) (a:=a) hp3 w
    have hprA:Q6 m a (w:Int)=if a.p=2∧(B1 m a (V6 m a w).toList).1.2=true then ((B1 m a (V6 m a w).toList).1,(B1 m a (V6 m a w).toList).2.1,a.put false ((B1 m a (V6 m a w).toList).1.1+(w:Int)) a.l) else B1 m a (V6 m a w).toList:=by
     unfold Q6
     rw[if_neg q,Int.toNat_natCast]
     rcases hp3 with hp | hp | hp
     ·rw[if_pos hp,if_neg (show ¬ (a.p=2∧_) from fun hh=>by omega),hS,if_neg (by omega),if_neg (by omega)]
     ·rw[if_neg (show ¬ a.p=0 by omega),if_pos hp,if_neg (show ¬ (a.p=2∧_) from fun hh=>by omega),hS,if_neg (by omega),if_pos hp]
     ·rw[if_neg (show ¬ a.p=0 by omega),if_neg (show ¬ a.p=1 by omega),if_pos hp,hS,if_pos hp]
      unfold P8
      by_cases q5:(B1 m a (Bx m a.s a.c.toNat w++Bx m a.s 0 w)).1.2=true
      ·rw[if_pos q5,if_pos ⟨hp,q5⟩]
      ·rw[if_neg q5,if_neg (fun hh=>q5 hh.2)]
    obtain ⟨τ4,e5⟩:=mb (k+3) (by omega) h3 ho (w:=w) (by omega)
    have e5':DM (k+9) (D8 rb) (w:Int) μ3=_:=e5
    obtain ⟨μ4,hμ4⟩:∃ μ4,μ3++τ4=μ4:=⟨_,rfl⟩
    rw[hμ4] at e5'
    have h4:TD μ4 j rb m t a:=hμ4 ▸ h3.app _
    have K4:Em j j rb σ μ4:=hμ4 ▸ K3.trans (Em.app _ _ _)
    have S4:μ4[σ.length]?=some (NQ r d c):=by rw[← hμ4,List.getElem?_append_left (Ae S3)]; exact S3
    obtain ⟨g0,g1,g2⟩:=N9 S4
    have hcfit:∀ g,V6 m a w=some g→g.1≤10000:=fun g hg=>by
     have ha:=ho.c0
     unfold V6 at hg
     have m0:∀ {l:List (Nat × Nat)},l.head?=some g→g ∈ l:=fun {l} hh=>List.mem_of_mem_head? hh
     split at hg
     ·rcases List.mem_append.1 (m0 hg) with hh | hh
      ·exact Sq hnt (by omega) g hh
      ·exact Sq hnt (by decide) g hh
     ·split at hg
      ·exact Sq hnt (by decide) g (Yd hg)
      ·exact Sq hnt (by decide) g (m0 hg)
    have fin:∀ (x:Int) (bl:Nat) (m1:HM),0≤x∧x≤20000→m1=(if 0<bl then CN m bl a.s else m)→B1 m a (V6 m a w).toList=((x,true),m1,a)→Rw ((Aw (k+9) (D8 rb) x (bl:Int) r d c μ4).bind fun r68=>Gu r68.1 fun n69 n70=>(bif n70 == (0:Int) then (Ai .i64 r68.2 rb 2).bind fun n72=>some (n72 == (2:Int),r68.2) else some (false,r68.2)).bind fun r73=>(bif r73.1 then ((G0 r73.2 rb 3 (.int .i64 (Ac (n69+(w:Int))))).bind fun s75=>some (.normal,[],s75)) else (some (.normal,[],r73.2)):Option Ay).bind fun r76=>if r76.1 = .normal then (some (.tuple #[.int .i64 n69,.int .i64 n70],r76.2.2)) else none) σ j rb (.tuple #[.int .i64 (Bj m a r d c (Q6 m a (w:Int))).1.1,.int .i64 (Bj m a r d c (Q6 m a (w:Int))).1.2]) (Bj m a r d c (Q6 m a (w:Int))).2.1 (Bj m a r d c (Q6 m a (w:Int))).2.2:=by
     intro x bl m1 hx hm1 hst
     have hpr:Q6 m a (w:Int)=((x,true),m1,if a.p=2 then a.put false (x+(w:Int)) a.l else a):=by
      rw[hprA,hst]
      by_cases hp:a.p=2
      ·rw[if_pos ⟨hp,rfl⟩,if_pos hp]
      ·rw[if_neg (fun hh=>hp hh.1),if_neg hp]
     rw[hpr,Vr (m1:=m1) hv (by rw[hw]; exact q) rfl rfl]
     obtain ⟨μ5,j5,t5,e6,h5,K5⟩:=S7 (k+3) (by omega) h4 (x:=x) (by omega) bl (r:=r) (d:=d) (c:=c) hb hm1
     have hadr:=qj (m1:=m1) (s:=a.s) (x:=x) (r:=r) (d:=d) (c:=c)
     dsimp only
     generalize gp m1 a.s x r d c=pl at *
     have e6':Aw (k+9) (D8 rb) x (bl:Int) r d c μ4=_:=e6
     simp only[e6',Option.bind_some,E6,h5.al.l2]
     by_cases qc:pl.1.2=0
     ·rw[if_pos qc]
      have hx1:=hadr qc
      simp only[show (pl.1.2 == 0)=true from by simpa using qc,cond_true,Option.bind_some,hx1,Ad (show AW (x+(w:Int)) by unfold AW; omega)]
      by_cases hp:a.p=2
      ·have s1:=h5.al.G0 3 (.int .i64 (x+(w:Int))) (a.put false (x+(w:Int)) a.l) rfl (by decide)
       rw[if_pos hp]
       simp only[show (a.p == 2)=true from by simpa using hp,cond_true,s1,Option.bind_some,if_true]
       exact ⟨_,j5,t5,rfl,h5.RH _,(K4.trans K5).trans (Em.set _ _ _)⟩
      ·rw[if_neg hp]
       simp only[show (a.p == 2)=false from by simpa using hp,cond_false,Option.bind_some,if_true]
       exact ⟨μ5,j5,t5,rfl,h5,K4.trans K5⟩
     ·rw[if_neg qc]
      simp only[show (pl.1.2 == 0)=false from by simpa using qc,cond_false,Option.bind_some,if_true]
      exact ⟨μ5,j5,t5,rfl,h5,K4.trans K5⟩
    have ef:=ZB (k+6) (by omega) h4.g h4.M.fz (c:=1) (by decide)
    rw[← Ww (by omega),show ((1:Nat):Int)=1 from rfl] at ef
    have ef':E3 (k+9) (Ci j) 1 μ4=_:=ef
    simp only[e5',Option.bind_some,Tp,h4.al.XO,ef',Am]
    cases hcho:V6 m a w with
    | some g=>
      have hg:=hcfit g hcho
      have:=fin (g.1:Int) 0 m (by omega) rfl (by rw[hcho]; rfl)
      simp only[Option.isSome_some,Bool.not_true,cond_false,Option.bind_some,if_true,GK,g0,g1,g2]
      exact this
    | none=>
      simp only[Option.isSome_none,Bool.not_false,cond_true]
      cases hf:Hs m with
      | none=>
        have hst:B1 m a (V6 m a w).toList=((0,false),m,a):=by rw[hcho]; unfold B1; simp only[Option.toList_none,hf]
        have hpr:Q6 m a (w:Int)=((0,false),m,a):=by rw[hprA,hst]; rw[if_neg (fun hh=>by cases hh.2)]
        have hX:Bj m a r d c (Q6 m a (w:Int))=((0,6),m,a):=by unfold Bj; rw[if_pos hv,hpr,if_neg (by dsimp only; decide)]
        rw[hX]
        simp only[beq_self_eq_true,cond_true,Option.bind_some,show (Bm.ret=Bm.normal)=False from by simp,if_false,if_true,GK]
        exact ⟨μ4,j,t,rfl,h4,K4⟩
      | some b=>
        have hb1:=Hg hf
        have hst:B1 m a (V6 m a w).toList=((64*(b:Int),true),CN m b a.s,a):=by rw[hcho]; unfold B1; simp only[Option.toList_none,hf]
        have:=fin (64*(b:Int)) b (CN m b a.s) (by omega) (by rw[if_pos (by omega)]) hst
        have w1:Ac ((b:Int)*64)=64*(b:Int):=by rw[Ad (by unfold AW; omega)]; omega
        simp only[show (((b:Nat):Int) == 0)=false from by rw[beq_eq_false_iff_ne]; omega,cond_false,w1,Option.bind_some,if_true,GK,g0,g1,g2]
        exact this
end Go.Proofs.YtlaplcglpnlieaaGreat
end
