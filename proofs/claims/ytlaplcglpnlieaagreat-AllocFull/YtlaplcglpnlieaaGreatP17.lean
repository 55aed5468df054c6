/- The document's heap: what turns in memory; blocks are claimed, released, retagged.; The document's heap: blocks claimed, released, retagged.; The docu -/
import Derived.Test.YtlaplcglpnlieaaGreatP16
set_option linter.unusedVariables false
set_option linter.unusedSimpArgs false
set_option linter.unusedSectionVars false
section
namespace Go.Proofs.YtlaplcglpnlieaaGreat
open Go Go.AX
noncomputable local instance vY:AF:=Au
local instance uO:Kn:=⟨true⟩
variable {σ:Aa} {m:HM} {t:RM} {i:RI}
def WT (om:List (E8 × E8)):List Nat:=om.flatMap fun p=>hs p.1++hs p.2
theorem bf (s:E8):(hs s).Nodup:=by
 unfold hs
 cases s.1 <;> simp
theorem RI.Ka {j:Nat}:j ∈ i.l↔j=i.hb∨j ∈ hs i.bs∨j ∈ hs i.os∨j ∈ hs i.fs∨j ∈ WT i.om:=by
 unfold RI.l WT
 simp only[List.mem_cons,List.mem_append]
structure Sep (i:RI):Prop where
 hA:i.hb ∉ hs i.bs
 hB:i.hb ∉ hs i.os
 hC:i.hb ∉ hs i.fs
 hD:i.hb ∉ WT i.om
 AB:∀ a ∈ hs i.bs,a ∉ hs i.os
 AC:∀ a ∈ hs i.bs,a ∉ hs i.fs
 AD:∀ a ∈ hs i.bs,a ∉ WT i.om
 BC:∀ a ∈ hs i.os,a ∉ hs i.fs
 BD:∀ a ∈ hs i.os,a ∉ WT i.om
 CD:∀ a ∈ hs i.fs,a ∉ WT i.om
 D:(WT i.om).Nodup
theorem Sep.of (h:i.l.Nodup):Sep i:=by
 have h:(i.hb::(hs i.bs++(hs i.os++(hs i.fs++WT i.om)))).Nodup:=h
 obtain ⟨h1,h2⟩:=List.nodup_cons.1 h
 simp only[List.mem_append,not_or] at h1
 obtain ⟨_,h3,h4⟩:=List.nodup_append.1 h2
 obtain ⟨_,h5,h6⟩:=List.nodup_append.1 h3
 obtain ⟨_,h7,h8⟩:=List.nodup_append.1 h5
 exact ⟨h1.1,h1.2.1,h1.2.2.1,h1.2.2.2,fun a ha hb=>h4 a ha a (List.mem_append.2 (.inl hb)) rfl,fun a ha hb=>h4 a ha a (List.mem_append.2 (.inr (List.mem_append.2 (.inl hb)))) rfl,fun a ha hb=>h4 a ha a (List.mem_append.2 (.inr (List.mem_append.2 (.inr hb)))) rfl,
  fun a ha hb=>h6 a ha a (List.mem_append.2 (.inl hb)) rfl,fun a ha hb=>h6 a ha a (List.mem_append.2 (.inr hb)) rfl,fun a ha hb=>h8 a ha a hb rfl,h7⟩
theorem Sep.nd (h:Sep i):i.l.Nodup:=by
 show (i.hb::(hs i.bs++(hs i.os++(hs i.fs++WT i.om)))).Nodup
 refine List.nodup_cons.2 ⟨?_,List.nodup_append.2 ⟨bf _,List.nodup_append.2 ⟨bf _,List.nodup_append.2 ⟨bf _,h.D, ?_⟩, ?_⟩, ?_⟩⟩
 ·simp only[List.mem_append,not_or]
  exact ⟨h.hA,h.hB,h.hC,h.hD⟩
 ·intro a ha b hb e
  subst e
  exact h.CD a ha hb
 ·intro a ha b hb e
  subst e
  rcases List.mem_append.1 hb with hb | hb
  ·exact h.BC a ha hb
  ·exact h.BD a ha hb
 ·intro a ha b hb e
  subst e
  rcases List.mem_append.1 hb with hb | hb
  ·exact h.AB a ha hb
  ·rcases List.mem_append.1 hb with hb | hb
   ·exact h.AC a ha hb
   ·exact h.AD a ha hb
theorem NB.sep (h:NB σ i t):Sep i:=Sep.of h.nd
theorem WC {om:List (E8 × E8)} {x b:Nat} (hx:x<om.length) (h:b ∈ hs om[x].1∨b ∈ hs om[x].2):b ∈ WT om:=
 List.mem_flatMap.2 ⟨_,List.getElem_mem hx,List.mem_append.2 h⟩
theorem Xt {s:E8} {q:Nat} (e:s.1=some ⟨q,0,none⟩):q ∈ hs s:=JO.2 ⟨_,e,rfl⟩
theorem PM {L:List Nat} {q b:Nat} {c:Bi} (hq:q ∉ L) (hb:b ∈ L):(σ.set q c)[b]?=σ[b]?:=
 List.getElem?_set_ne (fun e:q=b=>hq (by rw[e]; exact hb))
structure GW (i i':RI) (σ σ':Aa):Prop where
 len:σ.length≤σ'.length
 same:∀ j,j<σ.length→j ∉ i.l→σ'[j]?=σ[j]?
 new:∀ j,j ∈ i'.l→j ∈ i.l∨σ.length≤j
 hb:i'.hb=i.hb
theorem GW.refl (i:RI) (σ:Aa):GW i i σ σ:=⟨Nat.le_refl _,fun _ _ _=>rfl,fun _ h=>.inl h,rfl⟩
theorem GW.app (i:RI) (σ τ:Aa):GW i i σ (σ++τ):=⟨by simp,fun j hj _=>List.getElem?_append_left hj,fun _ h=>.inl h,rfl⟩
theorem GW.trans {a b c:Aa} {i i' i'':RI} (h:GW i i' a b) (g:GW i' i'' b c):GW i i'' a c:=by
 refine ⟨Nat.le_trans h.len g.len,fun j h1 h2=>?_,fun j hj=>?_,g.hb.trans h.hb⟩
 ·refine (g.same j (Nat.lt_of_lt_of_le h1 h.len) fun hm=>?_).trans (h.same j h1 h2)
  rcases h.new j hm with h3 | h3
  ·exact h2 h3
  ·omega
 ·rcases g.new j hj with h1 | h1
  ·exact h.new j h1
  ·exact .inr (Nat.le_trans h.len h1)
theorem GW.set {q:Nat} (σ:Aa) (c:Bi) (h:q ∈ i.l):GW i i σ (σ.set q c):=
 ⟨by simp,fun j hj hn=>List.getElem?_set_ne (fun e:q=j=>hn (by rw[← e]; exact h)),fun _ h=>.inl h,rfl⟩
def Hp (mm:Option (Value × Aa)) (σ:Aa) (i:RI) (v:Value) (m':HM):Prop:=
 ∃ σ' i' t',mm=some (v,σ')∧NB σ' i' t'∧RU m' t'∧NS m'∧GW i i' σ σ'
theorem Hp.same (h:RG σ i m t) (hP:NS m) (τ:Aa) {v:Value} {mm:Option (Value × Aa)} (he:mm=some (v,σ++τ)):Hp mm σ i v m:=
 ⟨σ++τ,i,t,he,h.at_.app τ,h.sim,hP,GW.app i σ τ⟩
theorem Hp.Rs (h:RG σ i m t) (hP:NS m) {v:Value} {mm:Option (Value × Aa)} (he:mm=some (v,σ)):Hp mm σ i v m:=
 ⟨σ,i,t,he,h.at_,h.sim,hP,GW.refl i σ⟩
theorem NB.oH {μ:Aa} {i:RI} {t:RM} (bl:BQ AA 2 μ i.bs t.bl.length (CE t.bl)) (ob:BQ Aj 8 μ i.os t.ob.length (HO t.ob i.om)) (fw:eK μ i.fs t.fw) (ol:i.om.length=t.ob.length)
  (inn:∀ (x:Nat) (h:x<t.ob.length) (h':x<i.om.length),KX μ i.om[x].1 t.ob[x].refs∧KX μ i.om[x].2 t.ob[x].data) (sep:Sep i) (lt:∀ j ∈ i.l,j<μ.length):
  NB (μ.set i.hb (.cells [.slice i.bs.1 i.bs.2.1 i.bs.2.2,.slice i.os.1 i.os.2.1 i.os.2.2,.slice i.fs.1 i.fs.2.1 i.fs.2.2,.int .i64 t.born] EI true)) i t where
 hp:=List.getElem?_set_self (lt _ i.R8)
 bl:=bl.CT fun a ha=>PM (sep.hA) (JO.2 ⟨a,ha,rfl⟩)
 ob:=ob.CT fun a ha=>PM (sep.hB) (JO.2 ⟨a,ha,rfl⟩)
 fw:=fw.CT fun a ha=>PM (sep.hC) (JO.2 ⟨a,ha,rfl⟩)
 ol:=ol
 inn:=fun x h h'=>⟨(inn x h h').1.CT fun b hb=>PM (sep.hD) (WC h' (.inl hb)),(inn x h h').2.CT fun b hb=>PM (sep.hD) (WC h' (.inr hb))⟩
 nd:=sep.nd
 lt:=fun j hj=>by rw[List.length_set]; exact lt j hj
theorem NB.ez (h:NB σ i t) {q:Nat} (e:i.bs.1=some ⟨q,0,none⟩) (l':List (Int × Int)) (hl:l'.length=t.bl.length):NB (σ.set q (.cells (CE l') AA true)) i { t with bl:=l' }:=by
 have sep:=h.sep
 have hq:=Xt e
 have hlt:=h.lt q (RI.Ka.2 (.inr (.inl hq)))
 refine { hp:=?_,bl:=?_,ob:=?_,fw:=?_,ol:=h.ol,inn:=?_,nd:=h.nd,lt:=fun j hj=>by rw[List.length_set]; exact h.lt j hj }
 ·rw[List.getElem?_set_ne (fun e':q=i.hb=>sep.hA (by rw[← e']; exact hq))]; exact h.hp
 ·have:=h.bl.form
  rw[e] at this
  exact .inr ⟨q,by rw[this,hl],Nat.zero_le _,by rw[Gh]; omega,List.getElem?_set_self hlt⟩
 ·exact h.ob.CT fun a ha=>PM (sep.AB q hq) (JO.2 ⟨a,ha,rfl⟩)
 ·exact h.fw.CT fun a ha=>PM (sep.AC q hq) (JO.2 ⟨a,ha,rfl⟩)
 ·intro x h1 h2
  exact ⟨(h.inn x h1 h2).1.CT fun b hb=>PM (sep.AD q hq) (WC h2 (.inl hb)),(h.inn x h1 h2).2.CT fun b hb=>PM (sep.AD q hq) (WC h2 (.inr hb))⟩
theorem NB.rS (h:NB σ i t) {b:Nat} (hb:b<t.bl.length) (x y:Int):∃ q,i.bs.1=some ⟨q,0,none⟩∧Ki σ q (b*2) [.int .i64 x,.int .i64 y]=some (σ.set q (.cells (CE (t.bl.set b (x,y))) AA true)) ∧
  NB (σ.set q (.cells (CE (t.bl.set b (x,y))) AA true)) i { t with bl:=t.bl.set b (x,y) }∧GW i i σ (σ.set q (.cells (CE (t.bl.set b (x,y))) AA true)):=by
 obtain ⟨q,e,l0,l1,hc⟩:=Vq h.bl hb
 refine ⟨q,e, ?_,h.ez e _ (by simp),GW.set _ _ (RI.Ka.2 (.inr (.inl (Xt e))))⟩
 have:b*2+2≤(CE t.bl).length:=by rw[Gh]; omega
 simp only[Ki,hc,List.length_cons,List.length_nil,Nat.zero_add,Nat.reduceAdd,this,if_true,Sg _ _ _ _ hb]
theorem NB.tu (h:NB σ i t) {b:Nat} (hb:b<t.bl.length) (y:Int):∃ q,i.bs.1=some ⟨q,0,none⟩∧AX.G0 σ q (b*2+1) (.int .i64 y)=some (σ.set q (.cells (CE (t.bl.set b ((t.bl.getD b (0,0)).1,y))) AA true)) ∧
  NB (σ.set q (.cells (CE (t.bl.set b ((t.bl.getD b (0,0)).1,y))) AA true)) i { t with bl:=t.bl.set b ((t.bl.getD b (0,0)).1,y) }∧GW i i σ (σ.set q (.cells (CE (t.bl.set b ((t.bl.getD b (0,0)).1,y))) AA true)):=by
 obtain ⟨q,e,l0,l1,hc⟩:=Vq h.bl hb
 refine ⟨q,e, ?_,h.ez e _ (by simp),GW.set _ _ (RI.Ka.2 (.inr (.inl (Xt e))))⟩
 have:b*2+1<(CE t.bl).length:=by rw[Gh]; omega
 simp only[AX.G0,hc,this,if_true,dc _ _ _ hb]
theorem g8 (l:List (Int × Int)) (b:Nat) (x:Int) (hb:b<l.length):(CE l).set (b*2) (.int .i64 x)=CE (l.set b (x,(l.getD b (0,0)).2)):=by
 rw[Sg _ _ _ _ hb]
 have h1:=(Se l b hb).2
 rw[Nat.mul_comm] at h1
 have hlen:=Gh l
 apply List.ext_getElem?
 intro p
 unfold AE
 by_cases hp:p=b*2
 ·subst hp
  rw[List.getElem?_set_self (by omega),List.append_assoc,List.getElem?_append_right (by simp; omega)]
  simp[List.length_take,Nat.min_eq_left (show b*2≤(CE l).length by omega)]
 ·rw[List.getElem?_set_ne (Ne.symm hp),List.append_assoc]
  by_cases h2:p<b*2
  ·rw[List.getElem?_append_left (by simp; omega),List.getElem?_take_of_lt h2]
  ·rw[List.getElem?_append_right (by simp; omega),List.length_take,Nat.min_eq_left (show b*2≤(CE l).length by omega)]
   by_cases h3:p=b*2+1
   ·subst h3
    rw[h1,show b*2+1-b*2=1 from by omega]
    rfl
   ·rw[List.getElem?_append_right (by simp; omega),List.getElem?_drop]
    congr 1
    simp only[List.length_cons,List.length_nil]
    omega
theorem NB.tP (h:NB σ i t) {b:Nat} (hb:b<t.bl.length) (x:Int):∃ q,i.bs.1=some ⟨q,0,none⟩∧AX.G0 σ q (b*2) (.int .i64 x)=some (σ.set q (.cells (CE (t.bl.set b (x,(t.bl.getD b (0,0)).2))) AA true)) ∧
  NB (σ.set q (.cells (CE (t.bl.set b (x,(t.bl.getD b (0,0)).2))) AA true)) i { t with bl:=t.bl.set b (x,(t.bl.getD b (0,0)).2) }∧GW i i σ (σ.set q (.cells (CE (t.bl.set b (x,(t.bl.getD b (0,0)).2))) AA true)):=by
 obtain ⟨q,e,l0,l1,hc⟩:=Vq h.bl hb
 refine ⟨q,e, ?_,h.ez e _ (by simp),GW.set _ _ (RI.Ka.2 (.inr (.inl (Xt e))))⟩
 have:b*2<(CE t.bl).length:=by rw[Gh]; omega
 simp only[AX.G0,hc,this,if_true,g8 _ _ _ hb]
theorem OT (l:List (Int × Int)) (b c:Nat) (e:Int × Int):(l.set b e).getD c (0,0)=if c=b∧b<l.length then e else l.getD c (0,0):=by
 rw[List.getD_eq_getElem?_getD,List.getElem?_set]
 by_cases h:b=c
 ·subst h
  by_cases h2:b<l.length
  ·simp[h2]
  ·simp[h2]
 ·rw[if_neg h,if_neg (fun hh=>h hh.1.symm),List.getD_eq_getElem?_getD]
theorem Xi (b:Nat) (e:Int × Int):∀ (n x:Nat) (l:List (Int × Int)) (c:Nat),b+x+n≤l.length→(V7 l b e n x).getD c (0,0)=if b+x≤c∧c<b+x+n then e else l.getD c (0,0)
 | 0,x,l,c,h=>by rw[V7,if_neg (by omega)]
 | n+1,x,l,c,h=>by
   rw[V7,Xi b e n (x+1) _ c (by rw[List.length_set]; omega),OT]
   by_cases h1:b+(x+1)≤c∧c<b+(x+1)+n
   ·rw[if_pos h1,if_pos (show b+x≤c∧c<b+x+(n+1) by omega)]
   ·rw[if_neg h1]
    by_cases h2:c=b+x
    ·rw[if_pos ⟨h2,by omega⟩,if_pos (show b+x≤c∧c<b+x+(n+1) by omega)]
    ·rw[if_neg (show ¬ (c=b+x∧b+x<l.length) from fun hh=>h2 hh.1),if_neg (show ¬ (b+x≤c∧c<b+x+(n+1)) by omega)]
theorem ct (b:Nat) (y:Int):∀ (n:Nat) (l:List (Int × Int)) (c:Nat),b+n≤l.length→(VH l b y n).getD c (0,0)=if b≤c∧c<b+n then ((l.getD c (0,0)).1,y) else l.getD c (0,0)
 | 0,l,c,h=>by rw[VH,if_neg (by omega)]
 | n+1,l,c,h=>by
   rw[VH,ct b y n _ c (by rw[List.length_set]; omega),OT]
   by_cases h2:c=b+n
   ·subst h2
    rw[if_neg (show ¬ (b≤b+n∧b+n<b+n) by omega),if_pos ⟨rfl,by omega⟩,if_pos (show b≤b+n∧b+n<b+(n+1) by omega)]
   ·rw[if_neg (show ¬ (c=b+n∧b+n<l.length) from fun hh=>h2 hh.1)]
    by_cases h1:b≤c∧c<b+n
    ·rw[if_pos h1,if_pos (show b≤c∧c<b+(n+1) by omega)]
    ·rw[if_neg h1,if_neg (show ¬ (b≤c∧c<b+(n+1)) by omega)]
def jc (l:List (Int × Int)) (b:Nat) (y:Int):Nat→Nat→List (Int × Int)
 | 0,_=>l
 | n+1,x=>jc (l.set (b+x) ((l.getD (b+x) (0,0)).1,y)) b y n (x+1)
theorem Zp (b:Nat) (y:Int):∀ (n x:Nat) (l:List (Int × Int)),(jc l b y n x).length=l.length
 | 0,x,l=>rfl
 | n+1,x,l=>by rw[jc,Zp b y n]; simp
theorem eD (b:Nat) (y:Int):∀ (n x:Nat) (l:List (Int × Int)) (c:Nat),b+x+n≤l.length→(jc l b y n x).getD c (0,0)=if b+x≤c∧c<b+x+n then ((l.getD c (0,0)).1,y) else l.getD c (0,0)
 | 0,x,l,c,h=>by rw[jc,if_neg (by omega)]
 | n+1,x,l,c,h=>by
   rw[jc,eD b y n (x+1) _ c (by rw[List.length_set]; omega),OT]
   by_cases h2:c=b+x
   ·subst h2
    rw[if_neg (show ¬ (b+(x+1)≤b+x∧b+x<b+(x+1)+n) by omega),if_pos ⟨rfl,by omega⟩,if_pos (show b+x≤b+x∧b+x<b+x+(n+1) by omega)]
   ·rw[if_neg (show ¬ (c=b+x∧b+x<l.length) from fun hh=>h2 hh.1)]
    by_cases h1:b+(x+1)≤c∧c<b+(x+1)+n
    ·rw[if_pos h1,if_pos (show b+x≤c∧c<b+x+(n+1) by omega)]
    ·rw[if_neg h1,if_neg (show ¬ (b+x≤c∧c<b+x+(n+1)) by omega)]
theorem gQ {l l':List (Int × Int)} (hl:l.length=l'.length) (h:∀ c,l.getD c (0,0)=l'.getD c (0,0)):l=l':=by
 apply List.ext_getElem hl
 intro n h1 h2
 have:=h n
 rw[List.getD_eq_getElem?_getD,List.getD_eq_getElem?_getD,List.getElem?_eq_getElem h1,List.getElem?_eq_getElem h2] at this
 exact this
theorem pP {l:List (Int × Int)} {b n:Nat} (h:b+n≤l.length):V7 l b (0,0) n 0=XC l b n:=
 gQ (by rw[Ft,OZ]) fun c=>by rw[Xi b _ n 0 l c (by omega),Om b n l c,Nat.add_zero]
theorem po {l:List (Int × Int)} {b n:Nat} {y:Int} (h:b+n≤l.length):jc l b y n 0=VH l b y n:=
 gQ (by rw[Zp,Pc]) fun c=>by rw[eD b y n 0 l c (by omega),ct b y n l c h,Nat.add_zero]
def FZ (m:HM):Prop:=∀ c,(m.bls.getD c (0,0)).1=0→(m.bls.getD c (0,0)).2=0
theorem XG {b:Nat}:∀ (f n:Nat),(m.bls.getD b (0,0)).1=1∨(m.bls.getD b (0,0)).1=2→1≤n→(∀ c,1≤c→c<n→(m.bls.getD (b+c) (0,0)).1=3) → ∀ c,c<EO m b f n→(m.bls.getD (b+c) (0,0)).1≠0
 | 0,n,h,hn,h3,c,hc=>by
   rw[EO] at hc
   by_cases c0:c=0
   ·subst c0; rw[Nat.add_zero]; omega
   ·rw[h3 c (by omega) hc]; decide
 | f+1,n,h,hn,h3,c,hc=>by
   rw[EO] at hc
   split at hc
   ·rename_i hcond
    exact XG f (n+1) h (by omega) (fun c' h1 h2=>by
     by_cases e:c'=n
     ·rw[e]; exact hcond.2.2
     ·exact h3 c' h1 (by omega)) c hc
   ·by_cases c0:c=0
    ·subst c0; rw[Nat.add_zero]; omega
    ·rw[h3 c (by omega) hc]; decide
theorem PT {l:List (Int × Int)} {b:Nat} (hz:∀ c,(l.getD c (0,0)).1=0→(l.getD c (0,0)).2=0):∀ (n x:Nat),Im l b n x=none ↔ ∀ c,x≤c→c<x+n→(l.getD (b+c) (0,0)).1=0
 | 0,x=>by simp[Im]; intro c h1 h2; omega
 | n+1,x=>by
   rw[Im]
   by_cases h:(l.getD (b+x) (0,0)).1=0
   ·rw[if_pos ⟨h,hz _ h⟩,PT hz n (x+1)]
    constructor
    ·intro g c h1 h2
     by_cases e:c=x
     ·rw[e]; exact h
     ·exact g c (by omega) (by omega)
    ·intro g c h1 h2
     exact g c (by omega) (by omega)
   ·rw[if_neg (fun hh=>h hh.1)]
    constructor
    ·intro g; cases g
    ·intro g; exact absurd (g x (Nat.le_refl _) (by omega)) h
end Go.Proofs.YtlaplcglpnlieaaGreat
end
section
namespace Go.Proofs.YtlaplcglpnlieaaGreat
open Go Go.AX
noncomputable local instance vZ:AF:=Au
local instance uP:Kn:=⟨true⟩
variable {σ:Aa} {m:HM} {t:RM} {i:RI}
theorem Vu (k:Nat) (h:RG σ i m t) (b:Int):Cw (k+1) (Ci i) b σ=some (.bool (decide (1≤b∧b<(m.bls.length:Int))),σ):=by
 rw[Ub,Qh]
 by_cases h0:1≤b
 ·rw[decide_eq_true (show b≥1 from h0)]
  simp only[cond_true,Option.bind_some,Nat.zero_add,Nat.add_zero,h.at_.Sw,h.bn,h0,true_and]
 ·rw[decide_eq_false (show ¬ b≥1 from h0),decide_eq_false (fun hh=>h0 hh.1)]
  simp only[cond_false,Option.bind_some]
theorem Y6 (k:Nat) (y:Int) (σ:Aa):Gj (k+1) y σ=some (.bool (Ug y),σ):=by
 rw[Yn,VP]
 unfold Ug
 by_cases h0:0≤y <;> simp[h0]
theorem dV (k:Nat) (h:RG σ i m t) (hP:NS m) (hz:FZ m) (b s:Int):Hp (CO (k+2) (Ci i) b s σ) σ i (.int .i64 (Bp m b 1 1 s 0 0).1) (Bp m b 1 1 s 0 0).2:=by
 have hnt:=h.nt
 rw[TS,PZ]
 simp only[Iw k h,Vu k h b,Y6 k s,Option.bind_some,As,Bool.not_true,cond_false]
 unfold Bp
 by_cases g0:1≤b∧b<(m.bls.length:Int)
 rotate_left
 ·rw[if_neg (fun hh=>g0 ⟨hh.1,hh.2.1⟩),decide_eq_false g0]
  exact Hp.Rs h hP (by simp only[Bool.not_false,cond_true,Option.bind_some])
 rw[decide_eq_true g0]
 simp only[Bool.not_true,cond_false,Option.bind_some]
 cases hs:Ug s with
 | false=>
   rw[if_neg (fun hh=>by have:=hh.2.2.2.2; cases this)]
   exact Hp.Rs h hP (by simp only[Bool.not_false,cond_true])
 | true=>
   rw[if_pos ⟨g0.1,g0.2,by omega,by omega,rfl⟩]
   obtain ⟨n,rfl⟩:∃ n:Nat,b=(n:Int):=⟨b.toNat,by omega⟩
   have hn:n<m.bls.length:=by omega
   obtain ⟨q,e,l0,l1,hc⟩:=XB h hn
   have qx:(0≤(n:Int)∧(n:Int)<((m.bls.length:Nat):Int))=True:=eq_true (by omega)
   simp only[Bool.not_true,cond_false,Nat.zero_add,Nat.add_zero,h.at_.Sw,h.bn,Option.bind_some,qx,if_true,e,Int.toNat_natCast,l0,show (1:Int).toNat=1 from rfl]
   have hu:Im m.bls n 1 0=none↔(m.bls.getD n (0,0)).1=0:=by
    rw[PT hz]
    constructor
    ·intro g; exact g 0 (Nat.le_refl _) (by omega)
    ·intro g c h1 h2
     rw[show c=0 from by omega]; exact g
   by_cases g1:(m.bls.getD n (0,0)).1=0
   ·rw[if_pos (hu.2 g1)]
    simp only[g1,bne_self_eq_false,cond_false]
    obtain ⟨q2,e2,e3,h3,k3⟩:=h.at_.rS (b:=n) (by rw[h.bn]; exact hn) 1 s
    have:q2=q:=by rw[e] at e2; cases e2; rfl
    subst this
    refine ⟨_,i,_,by simp only[e3,Option.bind_some],h3, ?_, ?_,k3⟩
    ·rw[h.sim.bl]
     have:(V7 m.bls n (0,0) 1 0).set n (1,s)=m.bls.set n (1,s):=by
      show (m.bls.set (n+0) (0,0)).set n (1,s)=_
      rw[Nat.add_zero,List.set_set]
     rw[this]
     exact h.sim.blocks _ (by simp)
    ·exact hP.blocks _ (by rw[List.length_set,Ft])
   ·rw[if_neg (fun hh=>g1 (hu.1 hh))]
    simp only[bne_iff_ne.2 g1,cond_true]
    exact Hp.Rs h hP rfl
theorem VX (k:Nat) (h:RG σ i m t) (hz:FZ m) {b c:Nat} (hbc:b+c≤m.bls.length):∀ (n x f:Nat),x+n=c→n<f→Ct k f (Ci i) (b:Int) (c:Int) ((b+x:Nat):Int) σ=some (match Im m.bls b n x with | none=>(.exit 0,[],σ) | some _=>(.ret,[.int .i64 8],σ))
 | 0,x,0,hx,hf=>by omega
 | 0,x,f+1,hx,hf=>by
   have hnt:=h.nt
   rw[Ja,Ha]
   have w:Ac ((b:Int)+(c:Int))=((b+c:Nat):Int):=Ad (by unfold AW; omega)
   simp only[w,decide_eq_false (show ¬ ((b+x:Nat):Int)<((b+c:Nat):Int) by omega),cond_false,Im]
 | n+1,x,0,hx,hf=>by omega
 | n+1,x,f+1,hx,hf=>by
   have hnt:=h.nt
   rw[Ja,Ha,Im]
   have w:Ac ((b:Int)+(c:Int))=((b+c:Nat):Int):=Ad (by unfold AW; omega)
   have w1:Ac (((b+x:Nat):Int)+1)=((b+(x+1):Nat):Int):=Ad (by unfold AW; omega)
   obtain ⟨q,e,l0,l1,hc⟩:=XB h (b:=b+x) (by omega)
   have qx:(0≤((b+x:Nat):Int)∧((b+x:Nat):Int)<((m.bls.length:Nat):Int))=True:=eq_true (by omega)
   simp only[w,decide_eq_true (show ((b+x:Nat):Int)<((b+c:Nat):Int) by omega),cond_true,Nat.zero_add,Nat.add_zero,h.at_.Sw,h.bn,Option.bind_some,qx,if_true,e,Int.toNat_natCast,l0]
   by_cases g:(m.bls.getD (b+x) (0,0)).1=0
   ·rw[if_pos ⟨g,hz _ g⟩]
    simp only[g,bne_self_eq_false,cond_false,w1]
    exact VX k h hz hbc n (x+1) f (by omega) (by omega)
   ·rw[if_neg (fun hh=>g hh.1)]
    simp only[bne_iff_ne.2 g,cond_true]
theorem VY (k:Nat) {b c:Nat} (s:Int):∀ (n x f:Nat) (σ:Aa) (t:RM),NB σ i t→t.bl.length≤64→b+c≤t.bl.length→x+n=c→n<f →
  ∃ σ',Cu k f (Ci i) (b:Int) (c:Int) s ((b+x:Nat):Int) σ=some (.exit 2,[],σ')∧NB σ' i { t with bl:=V7 t.bl b (3,s) n x }∧GW i i σ σ'
 | 0,x,0,σ,t,h,hl,hb,hx,hf=>by omega
 | 0,x,f+1,σ,t,h,hl,hb,hx,hf=>by
   rw[Jb,Hb]
   have w:Ac ((b:Int)+(c:Int))=((b+c:Nat):Int):=Ad (by unfold AW; omega)
   exact ⟨σ,by simp only[w,decide_eq_false (show ¬ ((b+x:Nat):Int)<((b+c:Nat):Int) by omega),cond_false],h,GW.refl _ _⟩
 | n+1,x,0,σ,t,h,hl,hb,hx,hf=>by omega
 | n+1,x,f+1,σ,t,h,hl,hb,hx,hf=>by
   have w:Ac ((b:Int)+(c:Int))=((b+c:Nat):Int):=Ad (by unfold AW; omega)
   have w1:Ac (((b+x:Nat):Int)+1)=((b+(x+1):Nat):Int):=Ad (by unfold AW; omega)
   obtain ⟨q,e,e3,h3,k3⟩:=h.rS (b:=b+x) (by omega) 3 s
   obtain ⟨σ',e4,h4,k4⟩:=VY k s n (x+1) f _ _ h3 (by show (t.bl.set _ _).length≤64; rw[List.length_set]; exact hl) (by show _≤(t.bl.set _ _).length; rw[List.length_set]; exact hb) (by omega) (by omega)
   refine ⟨σ', ?_,h4,k3.trans k4⟩
   rw[Jb,Hb]
   have qx:(0≤((b+x:Nat):Int)∧((b+x:Nat):Int)<((t.bl.length:Nat):Int))=True:=eq_true (by omega)
   simp only[w,decide_eq_true (show ((b+x:Nat):Int)<((b+c:Nat):Int) by omega),cond_true,Nat.zero_add,Nat.add_zero,h.Sw,Option.bind_some,qx,if_true,e,Int.toNat_natCast,e3,w1]
   exact e4
theorem bL (k:Nat) (hk:100≤k) (h:RG σ i m t) (hP:NS m) (hz:FZ m) (b c s:Int) (hb:AW b) (hc:AW c):Hp (Eh (k+2) (Ci i) b c s σ) σ i (.int .i64 (Bp m b c 2 s 3 s).1) (Bp m b c 2 s 3 s).2:=by
 have hnt:=h.nt
 have hbn:=h.bn
 rw[Qo,Mz]
 simp only[Iw k h,Vu k h b,Y6 k s,Option.bind_some,As,Bool.not_true,cond_false]
 unfold Bp
 by_cases g0:1≤b∧b<(m.bls.length:Int)
 rotate_left
 ·rw[if_neg (fun hh=>g0 ⟨hh.1,hh.2.1⟩),decide_eq_false g0]
  exact Hp.Rs h hP (by simp only[Bool.not_false,cond_true,Option.bind_some])
 obtain ⟨n,rfl⟩:∃ n:Nat,b=(n:Int):=⟨b.toNat,by omega⟩
 have hn:n<m.bls.length:=by omega
 have wd:Ac (((m.bls.length:Nat):Int)-(n:Int))=((m.bls.length-n:Nat):Int):=by rw[Ad (by unfold AW; omega)]; omega
 rw[decide_eq_true g0]
 simp only[Bool.not_true,cond_false,Option.bind_some]
 by_cases g1:c<1
 ·rw[if_neg (fun hh=>by have:=hh.2.2.1; omega)]
  exact Hp.Rs h hP (by simp only[decide_eq_true g1,cond_true,Option.bind_some])
 simp only[decide_eq_false g1,cond_false,Option.bind_some,Nat.zero_add,Nat.add_zero,h.at_.Sw,h.bn,wd]
 by_cases g2:c>((m.bls.length-n:Nat):Int)
 ·rw[if_neg (fun hh=>by have:=hh.2.2.2.1; omega)]
  exact Hp.Rs h hP (by simp only[decide_eq_true g2,cond_true,Option.bind_some])
 simp only[decide_eq_false g2,cond_false,Option.bind_some]
 cases hs:Ug s with
 | false=>
   rw[if_neg (fun hh=>by have:=hh.2.2.2.2; cases this)]
   exact Hp.Rs h hP (by simp only[Bool.not_false,cond_true])
 | true=>
   rw[if_pos ⟨g0.1,g0.2,by omega,by omega,rfl⟩]
   obtain ⟨w,rfl⟩:∃ w:Nat,c=(w:Int):=⟨c.toNat,by omega⟩
   have hw:n+w≤m.bls.length:=by omega
   have e0:Ct (k+1) (k+1) (Ci i) (n:Int) (w:Int) (n:Int) σ=_:=VX (k+1) h hz hw w 0 (k+1) (by omega) (by omega)
   simp only[Bool.not_true,cond_false,e0,Option.bind_some,Int.toNat_natCast]
   cases g3:Im m.bls n w 0 with
   | none=>
     simp only[if_true]
     obtain ⟨σ1,e1,h1,k1⟩:=VY (i:=i) (k+1) (b:=n) (c:=w) s w 0 (k+1) σ t h.at_ (by rw[hbn]; exact hnt) (by rw[hbn]; exact hw) (by omega) (by omega)
     have e1':Cu (k+1) (k+1) (Ci i) (n:Int) (w:Int) s (n:Int) σ=_:=e1
     have hcl:(V7 t.bl n (3,s) w 0).length=m.bls.length:=by rw[Ft,hbn]
     obtain ⟨q,e2,e3,h3,k3⟩:=h1.tP (b:=n) (by show n<(V7 t.bl n (3,s) w 0).length; omega) 2
     have hg:((V7 t.bl n (3,s) w 0).getD n (0,0)).2=s:=by
      rw[Xi n (3,s) w 0 t.bl n (by omega),if_pos (by omega)]
     have e3':AX.G0 σ1 q (n*2) (.int .i64 2)=some (σ1.set q (.cells (CE ((V7 t.bl n (3,s) w 0).set n (2,((V7 t.bl n (3,s) w 0).getD n (0,0)).2))) AA true)):=e3
     have h3':NB (σ1.set q (.cells (CE ((V7 t.bl n (3,s) w 0).set n (2,((V7 t.bl n (3,s) w 0).getD n (0,0)).2))) AA true)) i { t with bl:=(V7 t.bl n (3,s) w 0).set n (2,((V7 t.bl n (3,s) w 0).getD n (0,0)).2) }:=h3
     have ld:Ew σ1 i.hb 0=some (i.bs.1,(V7 t.bl n (3,s) w 0).length,(V7 t.bl n (3,s) w 0).length):=h1.Sw
     rw[hg] at e3' h3'
     have qx:(0≤(n:Int)∧(n:Int)<((m.bls.length:Nat):Int))=True:=eq_true (by omega)
     refine ⟨σ1.set q (.cells (CE ((V7 t.bl n (3,s) w 0).set n (2,s))) AA true),i,{ t with bl:=(V7 m.bls n (3,s) w 0).set n (2,s) }, ?_, ?_, ?_, ?_⟩
     ·simp only[if_true,e1',Option.bind_some,ld,hcl,qx,if_true,e2,Int.toNat_natCast,Nat.zero_add,e3']
     ·rw[← h.sim.bl]; exact h3'
     ·exact h.sim.blocks _ (by rw[List.length_set,Ft])
     ·exact ⟨hP.blocks _ (by rw[List.length_set,Ft]),k1.trans (GW.set _ _ (RI.Ka.2 (.inr (.inl (Xt e2)))))⟩
   | some x0=>
     simp only[reduceCtorEq,if_false,if_true,D4]
     exact Hp.Rs h hP rfl
theorem UW (k:Nat) {b c:Nat}:∀ (n x f:Nat) (σ:Aa) (t:RM),NB σ i t→t.bl.length≤64→b+c≤t.bl.length→x+n=c→n<f →
  ∃ σ',Dc k f (Ci i) (b:Int) (c:Int) ((b+x:Nat):Int) σ=some (.exit 0,[],σ')∧NB σ' i { t with bl:=V7 t.bl b (0,0) n x }∧GW i i σ σ'
 | 0,x,0,σ,t,h,hl,hb,hx,hf=>by omega
 | 0,x,f+1,σ,t,h,hl,hb,hx,hf=>by
   rw[K8,IB]
   have w:Ac ((b:Int)+(c:Int))=((b+c:Nat):Int):=Ad (by unfold AW; omega)
   exact ⟨σ,by simp only[w,decide_eq_false (show ¬ ((b+x:Nat):Int)<((b+c:Nat):Int) by omega),cond_false],h,GW.refl _ _⟩
 | n+1,x,0,σ,t,h,hl,hb,hx,hf=>by omega
 | n+1,x,f+1,σ,t,h,hl,hb,hx,hf=>by
   have w:Ac ((b:Int)+(c:Int))=((b+c:Nat):Int):=Ad (by unfold AW; omega)
   have w1:Ac (((b+x:Nat):Int)+1)=((b+(x+1):Nat):Int):=Ad (by unfold AW; omega)
   obtain ⟨q,e,e3,h3,k3⟩:=h.rS (b:=b+x) (by omega) 0 0
   obtain ⟨σ',e4,h4,k4⟩:=UW k n (x+1) f _ _ h3 (by show (t.bl.set _ _).length≤64; rw[List.length_set]; exact hl) (by show _≤(t.bl.set _ _).length; rw[List.length_set]; exact hb) (by omega) (by omega)
   refine ⟨σ', ?_,h4,k3.trans k4⟩
   rw[K8,IB]
   have qx:(0≤((b+x:Nat):Int)∧((b+x:Nat):Int)<((t.bl.length:Nat):Int))=True:=eq_true (by omega)
   simp only[w,decide_eq_true (show ((b+x:Nat):Int)<((b+c:Nat):Int) by omega),cond_true,Nat.zero_add,Nat.add_zero,h.Sw,Option.bind_some,qx,if_true,e,Int.toNat_natCast,e3,w1]
   exact e4
theorem X9 (k:Nat) {b c:Nat} (y:Int):∀ (n x f:Nat) (σ:Aa) (t:RM),NB σ i t→t.bl.length≤64→b+c≤t.bl.length→x+n=c→n<f →
  ∃ σ',DS k f (Ci i) (b:Int) y (c:Int) ((b+x:Nat):Int) σ=some (.exit 0,[],σ')∧NB σ' i { t with bl:=jc t.bl b y n x }∧GW i i σ σ'
 | 0,x,0,σ,t,h,hl,hb,hx,hf=>by omega
 | 0,x,f+1,σ,t,h,hl,hb,hx,hf=>by
   rw[L9,JI]
   have w:Ac ((b:Int)+(c:Int))=((b+c:Nat):Int):=Ad (by unfold AW; omega)
   exact ⟨σ,by simp only[w,decide_eq_false (show ¬ ((b+x:Nat):Int)<((b+c:Nat):Int) by omega),cond_false],h,GW.refl _ _⟩
 | n+1,x,0,σ,t,h,hl,hb,hx,hf=>by omega
 | n+1,x,f+1,σ,t,h,hl,hb,hx,hf=>by
   have w:Ac ((b:Int)+(c:Int))=((b+c:Nat):Int):=Ad (by unfold AW; omega)
   have w1:Ac (((b+x:Nat):Int)+1)=((b+(x+1):Nat):Int):=Ad (by unfold AW; omega)
   obtain ⟨q,e,e3,h3,k3⟩:=h.tu (b:=b+x) (by omega) y
   obtain ⟨σ',e4,h4,k4⟩:=X9 k y n (x+1) f _ _ h3 (by show (t.bl.set _ _).length≤64; rw[List.length_set]; exact hl) (by show _≤(t.bl.set _ _).length; rw[List.length_set]; exact hb) (by omega) (by omega)
   refine ⟨σ', ?_,h4,k3.trans k4⟩
   rw[L9,JI]
   have qx:(0≤((b+x:Nat):Int)∧((b+x:Nat):Int)<((t.bl.length:Nat):Int))=True:=eq_true (by omega)
   simp only[w,decide_eq_true (show ((b+x:Nat):Int)<((b+c:Nat):Int) by omega),cond_true,Nat.zero_add,Nat.add_zero,h.Sw,Option.bind_some,qx,if_true,e,Int.toNat_natCast,e3,w1]
   exact e4
theorem c8 {n:Nat} (h:(m.bls.getD n (0,0)).1=1∨(m.bls.getD n (0,0)).1=2) (hn:n<m.bls.length):RP m n=Ee m n∧1≤Ee m n:=by
 have key:∀ f x,1≤x→1≤EO m n f x:=by
  intro f
  induction f with
  | zero=>intro x hx; exact hx
  | succ f ih=>
    intro x hx
    rw[EO]
    split
    ·exact ih (x+1) (by omega)
    ·exact hx
 refine ⟨?_,key _ _ (Nat.le_refl _)⟩
 unfold RP
 by_cases h1:(m.bls.getD n (0,0)).1=1
 ·rw[if_pos h1]
  unfold Ee
  cases hl:m.bls.length with
  | zero=>rfl
  | succ f=>rw[EO,if_neg (fun hh=>by rw[h1] at hh; exact absurd hh.1 (by decide))]
 ·rw[if_neg h1,if_pos (by omega)]
theorem iB (k:Nat) (hk:5000≤k) (h:RG σ i m t) (hP:NS m) (b:Int):Hp (Ep (k+3) (Ci i) b σ) σ i (.int .i64 (GD m b).1) (GD m b).2:=by
 have hnt:=h.nt
 have hbn:=h.bn
 rw[Sm,OD]
 simp only[Iw (k+1) h,Vu (k+1) h b,Option.bind_some,As,Bool.not_true,cond_false]
 unfold GD NP
 by_cases g0:1≤b∧b<(m.bls.length:Int)
 rotate_left
 ·have q:(¬(1≤b∧b<(m.bls.length:Int))∨true=false)=True:=eq_true (.inl g0)
  rw[decide_eq_false g0]
  simp only[q,if_true,show ((1:Int)=0)=False from by decide,if_false]
  exact Hp.Rs h hP (by simp only[Bool.not_false,cond_true])
 have q:(¬(1≤b∧b<(m.bls.length:Int))∨true=false)=False:=eq_false (by simp; omega)
 simp only[q,if_false]
 obtain ⟨n,rfl⟩:∃ n:Nat,b=(n:Int):=⟨b.toNat,by omega⟩
 have hn:n<m.bls.length:=by omega
 have eW:Ce (k+2) (Ci i) (n:Int) σ=_:=Y2 (k+1) (by omega) h hn
 rw[decide_eq_true g0]
 simp only[Bool.not_true,cond_false,eW,Option.bind_some,Am,Int.toNat_natCast]
 by_cases g1:(m.bls.getD n (0,0)).1≠1∧(m.bls.getD n (0,0)).1≠2
 ·have:RP m n=0:=by unfold RP; rw[if_neg g1.1,if_neg g1.2]
  rw[this]
  simp only[g1,ne_eq,not_false_eq_true,and_self,if_true,show ((5:Int)=0)=False from by decide,if_false]
  exact Hp.Rs h hP rfl
 obtain ⟨p1,p2⟩:=c8 (n:=n) (by omega) hn
 have hsp:=QI hn
 rw[p1]
 have qn:(((Ee m n:Nat):Int) == 0)=false:=beq_eq_false_iff_ne.2 (by omega)
 obtain ⟨τ,s,eO,iO⟩:=Zh k hk h (n:Int)
 have eobj:bE m (n:Int)=Cf m (32*n) 32:=by unfold bE; rw[if_pos (by omega),Int.toNat_natCast]
 rw[eobj] at iO
 have sl:s.2.1=(Cf m (32*n) 32).length:=by
  rw[← show (EE (Cf m (32*n) 32)).length=(Cf m (32*n) 32).length from by simp[EE]]; exact iO.sl.len
 simp only[g1,qn,cond_false,eO,Option.bind_some,H7,sl,if_false,if_true]
 by_cases g2:Cf m (32*n) 32=[]
 ·rw[if_pos g2,g2]
  obtain ⟨σ1,e1,h1,k1⟩:=UW (i:=i) (k+2) (b:=n) (c:=Ee m n) (Ee m n) 0 (k+2) (σ++τ) t (h.at_.app τ) (by omega) (by omega) (by omega) (by omega)
  have e1':Dc (k+2) (k+2) (Ci i) (n:Int) ((Ee m n:Nat):Int) (n:Int) (σ++τ)=_:=e1
  refine ⟨σ1,i,_,by simp only[List.length_nil,show decide ((((0:Nat):Int))>0)=false from rfl,cond_false,e1',Option.bind_some,if_true],h1, ?_, ?_,(GW.app i σ τ).trans k1⟩
  ·rw[pP (by omega),h.sim.bl]
   exact h.sim.blocks _ (OZ _ _ _)
  ·exact hP.blocks _ (OZ _ _ _)
 ·rw[if_neg g2]
  have:0<(Cf m (32*n) 32).length:=List.length_pos_iff.2 g2
  simp only[decide_eq_true (show (((Cf m (32*n) 32).length:Nat):Int)>0 by omega),cond_true]
  exact Hp.same h hP τ rfl
theorem mT (k:Nat) (hk:5000≤k) (h:RG σ i m t) (hP:NS m) (b y:Int):Hp (ER (k+3) (Ci i) b y σ) σ i (.int .i64 (Ls m b y).1) (Ls m b y).2:=by
 have hnt:=h.nt
 have hbn:=h.bn
 rw[TX,Qd]
 simp only[Iw (k+1) h,Vu (k+1) h b,Y6 (k+1) y,Option.bind_some,As,Bool.not_true,cond_false]
 unfold Ls NP
 by_cases g0:1≤b∧b<(m.bls.length:Int)
 rotate_left
 ·have q:(¬(1≤b∧b<(m.bls.length:Int))∨Ug y=false)=True:=eq_true (.inl g0)
  rw[decide_eq_false g0]
  simp only[q,if_true,show ((1:Int)=0)=False from by decide,if_false]
  exact Hp.Rs h hP (by simp only[Bool.not_false,cond_true,Option.bind_some])
 rw[decide_eq_true g0]
 cases hs:Ug y with
 | false=>
   simp only[Bool.not_true,cond_false,Option.bind_some,or_true,if_true,show ((1:Int)=0)=False from by decide,if_false]
   exact Hp.Rs h hP (by simp only[Bool.not_false,cond_true])
 | true=>
 have q:(¬(1≤b∧b<(m.bls.length:Int))∨true=false)=False:=eq_false (by simp; omega)
 simp only[q,if_false]
 obtain ⟨n,rfl⟩:∃ n:Nat,b=(n:Int):=⟨b.toNat,by omega⟩
 have hn:n<m.bls.length:=by omega
 have eW:Ce (k+2) (Ci i) (n:Int) σ=_:=Y2 (k+1) (by omega) h hn
 simp only[Bool.not_true,cond_false,eW,Option.bind_some,Am,Int.toNat_natCast]
 by_cases g1:(m.bls.getD n (0,0)).1≠1∧(m.bls.getD n (0,0)).1≠2
 ·have:RP m n=0:=by unfold RP; rw[if_neg g1.1,if_neg g1.2]
  rw[this]
  simp only[g1,ne_eq,not_false_eq_true,and_self,if_true,show ((5:Int)=0)=False from by decide,if_false]
  exact Hp.Rs h hP rfl
 obtain ⟨p1,p2⟩:=c8 (n:=n) (by omega) hn
 have hsp:=QI hn
 rw[p1]
 have qn:(((Ee m n:Nat):Int) == 0)=false:=beq_eq_false_iff_ne.2 (by omega)
 obtain ⟨σ1,e1,h1,k1⟩:=X9 (i:=i) (k+2) (b:=n) (c:=Ee m n) y (Ee m n) 0 (k+2) σ t h.at_ (by omega) (by omega) (by omega) (by omega)
 have e1':DS (k+2) (k+2) (Ci i) (n:Int) y ((Ee m n:Nat):Int) (n:Int) σ=_:=e1
 simp only[g1,qn,cond_false,e1',Option.bind_some,if_false,if_true]
 refine ⟨σ1,i,_,rfl,h1, ?_, ?_,k1⟩
 ·rw[po (by omega),h.sim.bl]
  exact h.sim.blocks _ (Pc _ _ _ _)
 ·exact hP.blocks _ (Pc _ _ _ _)
end Go.Proofs.YtlaplcglpnlieaaGreat
end
section
namespace Go.Proofs.YtlaplcglpnlieaaGreat
open Go Go.AX
noncomputable local instance we:AF:=Au
local instance uQ:Kn:=⟨true⟩
variable {σ:Aa} {m:HM} {t:RM} {i:RI}
theorem ar {ρ:Type} {x:Option Value} {d top v:Nat} (h:x=some (.int .i64 (v:Int))∨(x=none∧d=v)) (hv:v≤top) (K:Nat→Option ρ):bound x d top K=K v:=by
 rcases h with rfl | ⟨rfl,rfl⟩
 ·show (if 0≤(v:Int)∧(v:Int)≤(top:Int) then K (v:Int).toNat else none)=K v
  rw[if_pos (by omega),Int.toNat_natCast]
 ·rfl
theorem kB {E:TypeId} {s:Nat} {sl0:E8} {n0:Nat} {row0:List Value} (h0:BQ E s σ sl0 n0 row0) (lo hi:Nat) (hlh:lo≤hi) (hh:hi≤n0) (L H:Option Value) (hL:L=some (.int .i64 (lo:Int))∨(L=none∧0=lo)) (hH:H=some (.int .i64 (hi:Int))∨(H=none∧n0=hi)):
  ∃ src c,KL E s (sl0.1,n0,n0) L H none σ=some (src,hi-lo,c)∧GI σ s src (hi-lo)=some ((row0.drop (lo*s)).take ((hi-lo)*s)):=by
 unfold KL
 simp only[Option.isSome_none,Bool.not_false,Bool.true_or,cond_true]
 rw[ar (v:=n0) (.inr ⟨rfl,rfl⟩) (Nat.le_refl _),ar hH hh,ar hL hlh]
 rcases h0 with ⟨rfl,rfl,rfl⟩ | ⟨b,rfl,_,hl,hcell⟩
 ·have e1:hi=0:=by omega
  have e2:lo=0:=by omega
  subst e1; subst e2
  exact ⟨none,0,by simp,by simp[GI]⟩
 ·have e1:elemAt σ b=some E:=by simp only[elemAt,hcell]
  have ld:∀ o n,o+n≤row0.length→VV σ b o n=some ((row0.drop o).take n):=fun o n h=>by simp only[VV,hcell]; rw[if_pos h]
  by_cases e:n0=lo
  ·have e2:hi-lo=0:=by omega
   refine ⟨some ⟨b,0,none⟩,0, ?_, ?_⟩
   ·rw[if_pos e,e2]
    simp only[cond_false,e1,if_true]
   ·rw[e2,Nat.zero_mul]
    simp only[GI,Nat.zero_mul]
    rw[ld 0 0 (by omega)]; rfl
  ·refine ⟨some ⟨b,0+lo*s,none⟩,n0-lo, ?_, ?_⟩
   ·rw[if_neg e]
    simp only[Option.bind_some,e1,if_true]
   ·simp only[GI,Nat.zero_add]
    refine ld _ _ ?_
    rw[hl,← Nat.add_mul]
    exact Nat.mul_le_mul_right _ (by omega)
theorem qB {b o:Nat} {cs:List Value} {T:TypeId} (h:σ[b]?=some (.cells cs T true)) (ho:o≤cs.length):Ki σ b o []=some σ:=by
 simp only[Ki,h,List.length_nil,Nat.add_zero,ho,if_true,AE,List.append_nil,List.take_append_drop]
 rw[SD h]
theorem QX {E:TypeId} {s by_:Nat} {z:Value} (hs:IW P E=some s) (hb:bytesOf P E=some by_) (hz:GL P E=some z) (hz1:J5 z=false) (hz2:z.cells.size=s) (hs0:0<s)
  (σ:Aa) (sl:E8) (n:Nat) (row:List Value) (src:Option Addr) (c:Nat) (hsl:BQ E s σ sl n row) (hx:GI σ s src 0=some []):
  Bv P E sl (src,0,c) σ=some (sl,σ):=by
 unfold Bv Vg
 simp only[hs,hb,hz,Option.bind_some,hx]
 have h1:(¬ (J5 z=false∧some s=some z.cells.size∧0<z.cells.size))=False:=by
  rw[hz1,hz2]; simp[hs0]
 simp only[h1,if_false]
 rcases hsl with ⟨rfl,rfl,rfl⟩ | ⟨b,rfl,hp,hl,hcell⟩
 ·simp only[Nat.add_zero,Nat.le_refl,if_true,Mg,cond_true,qX]
 ·simp only[Nat.add_zero,Nat.le_refl,if_true,Mg,Option.isSome_none,cond_false,Option.bind_some,Nat.zero_add]
  rw[qB hcell (by omega)]
  simp only[Option.bind_some,qX]
theorem QW {E:TypeId} {s by_:Nat} {z:Value} (hs:IW P E=some s) (hb:bytesOf P E=some by_) (hz:GL P E=some z) (hz1:J5 z=false) (hz2:z.cells.size=s) (hs0:0<s) (hb0:0<by_) (hb1:by_≤1000)
  (σ τ:Aa) (sl:E8) (n:Nat) (row:List Value) (hsl:BQ E s (σ++τ) sl n row) (hbh:∀ a,sl.1=some a→σ.length≤a.block) {sl0:E8} {n0:Nat} {row0:List Value} (h0:BQ E s (σ++τ) sl0 n0 row0) (lo hi:Nat) (hlh:lo≤hi) (hh:hi≤n0) (hn:n+n0≤1000000)
  (L H:Option Value) (hL:L=some (.int .i64 (lo:Int))∨(L=none∧0=lo)) (hH:H=some (.int .i64 (hi:Int))∨(H=none∧n0=hi)):
  ∃ src,KL E s (sl0.1,n0,n0) L H none (σ++τ)=some src ∧ ∃ s' τ',Bv P E sl (src.1,src.2.1,src.2.2) (σ++τ)=some (s',σ++τ')∧BQ E s (σ++τ') s' (n+(hi-lo)) (row++(row0.drop (lo*s)).take ((hi-lo)*s))∧(∀ a,s'.1=some a→σ.length≤a.block):=by
 obtain ⟨src,c,e1,e2⟩:=kB h0 lo hi hlh hh L H hL hH
 refine ⟨_,e1, ?_⟩
 have hlen:((row0.drop (lo*s)).take ((hi-lo)*s)).length=(hi-lo)*s:=by
  have hr:row0.length=n0*s:=by
   rcases h0 with ⟨rfl,rfl,rfl⟩ | ⟨b,rfl,_,hl,_⟩
   ·simp
   ·exact hl
  rw[List.length_take,List.length_drop,hr,← Nat.sub_mul]
  exact Nat.min_eq_left (Nat.mul_le_mul_right _ (by omega))
 by_cases hz0:hi-lo=0
 ·rw[hz0,Nat.zero_mul,List.take_zero] at e2
  refine ⟨sl,τ, ?_, ?_,hbh⟩
  ·simp only[hz0]
   exact QX hs hb hz hz1 hz2 hs0 _ sl n row src c hsl e2
  ·rw[hz0,Nat.zero_mul,List.take_zero,List.append_nil]; exact hsl
 ·obtain ⟨s',σ',e,g,h⟩:=PY hs hb hz hz1 hz2 hs0 hb0 hb1 (σ++τ) sl n row src (hi-lo) c _ (by omega) (by omega) hlen hsl e2
  obtain ⟨⟨τ',rfl⟩,h2⟩:=g.behind hbh
  exact ⟨s',τ',e,h,h2⟩
theorem sP:IW P Aj=some 8:=by kernel_rfl
theorem ss:bytesOf P Aj=some 96:=by kernel_rfl
theorem sV:GL P Aj=some (.agg #[.int .i64 0,.int .i64 0,.int .i64 0,.int .i64 0,.int .i64 0,.slice none 0 0,.slice none 0 0,.bool false]):=by kernel_rfl
theorem Vo:∀ (l l':List RO) (om om':List (E8 × E8)),om.length=l.length→HO (l++l') (om++om')=HO l om++HO l' om'
 | [],l',[],om',h=>rfl
 | [],l',p::om,om',h=>by simp at h
 | o::l,l',[],om',h=>by simp at h
 | o::l,l',p::om,om',h=>by
   simp only[List.cons_append,HO,Vo l l' om om' (by simpa using h),List.append_assoc]
theorem Rl (l:List RO) (om:List (E8 × E8)) (h:om.length=l.length) (a:Nat) (ha:a≤l.length):(HO l om).take (a*8)=HO (l.take a) (om.take a)∧(HO l om).drop (a*8)=HO (l.drop a) (om.drop a):=by
 have e:HO l om=HO (l.take a) (om.take a)++HO (l.drop a) (om.drop a):=by
  rw[← Vo _ _ _ _ (by simp; omega),List.take_append_drop,List.take_append_drop]
 have hl:(HO (l.take a) (om.take a)).length=a*8:=by rw[Vp _ _ (by simp; omega),List.length_take,Nat.min_eq_left ha]
 rw[e]
 constructor
 ·rw[← hl,List.take_left]
 ·rw[← hl,List.drop_left]
theorem X0 (a b:List (E8 × E8)):WT (a++b)=WT a++WT b:=by unfold WT; rw[List.flatMap_append]
theorem X1 (p:E8 × E8) (b:List (E8 × E8)):WT (p::b)=(hs p.1++hs p.2)++WT b:=rfl
theorem PO (om:List (E8 × E8)) (x:Nat):WT om=WT (om.take x)++WT (om.drop x):=by rw[← X0,List.take_append_drop]
theorem dJ {lo:Nat} {s:E8} (h:∀ a,s.1=some a→lo≤a.block) {j:Nat} (hj:j ∈ hs s):lo≤j:=by
 obtain ⟨a,ha,rfl⟩:=JO.1 hj
 exact h a ha
theorem qo (k:Nat) (h:NB σ i t) (hn:t.ob.length≤5000) {x:Nat} (hx:x<t.ob.length):∃ σ' os',II (k+1) (Ci i) (x:Int) σ=some (.tuple #[],σ')∧NB σ' { i with os:=os',om:=i.om.eraseIdx x } { t with ob:=t.ob.eraseIdx x }∧GW i { i with os:=os',om:=i.om.eraseIdx x } σ σ'∧(∀ a,os'.1=some a→σ.length≤a.block)∧(∀ j,j<σ.length→j≠i.hb→σ'[j]?=σ[j]?):=by
 have sep:=h.sep
 have hol:=h.ol
 have h0:BQ Aj 8 (σ++[]) i.os t.ob.length (HO t.ob i.om):=by rw[List.append_nil]; exact h.ob
 obtain ⟨src1,e1,s1,τ1,a1,sl1,b1⟩:=QW sP ss sV rfl rfl (by decide) (by decide) (by decide) σ [] (none,0,0) 0 [] (BQ.nil _ _ _) (by intro a ha; cases ha) h0 0 x (by omega) (by omega) (by omega) none (some (.int .i64 (x:Int))) (.inr ⟨rfl,rfl⟩) (.inl rfl)
 rw[Nat.zero_mul,List.drop_zero,Nat.sub_zero,List.nil_append,Nat.zero_add,(Rl t.ob i.om hol x (by omega)).1] at sl1
 rw[List.append_nil] at e1 a1
 have hg:=h.app τ1
 obtain ⟨src2,e2,s2,τ2,a2,sl2,b2⟩:=QW sP ss sV rfl rfl (by decide) (by decide) (by decide) σ τ1 s1 x _ sl1 b1 hg.ob (x+1) t.ob.length (by omega) (Nat.le_refl _) (by omega) (some (.int .i64 ((x+1:Nat):Int))) none (.inl rfl) (.inr ⟨rfl,rfl⟩)
 rw[(Rl t.ob i.om hol (x+1) (by omega)).2,List.take_of_length_le (l:=HO (t.ob.drop (x+1)) (i.om.drop (x+1))) (by rw[Vp _ _ (by simp; omega),List.length_drop]; exact Nat.le_refl _),← Vo _ _ _ _ (by simp; omega)] at sl2
 rw[← List.eraseIdx_eq_take_drop_succ,← List.eraseIdx_eq_take_drop_succ,show x+(t.ob.length-(x+1))=(t.ob.eraseIdx x).length from by rw[List.length_eraseIdx_of_lt hx]; omega] at sl2
 have hg2:=h.app τ2
 have hsub:∀ j ∈ WT (i.om.eraseIdx x),j ∈ WT i.om:=by
  intro j hj
  rw[List.eraseIdx_eq_take_drop_succ,X0] at hj
  rw[PO i.om x,List.drop_eq_getElem_cons (by omega),X1]
  rcases List.mem_append.1 hj with hj | hj
  ·exact List.mem_append.2 (.inl hj)
  ·exact List.mem_append.2 (.inr (List.mem_append.2 (.inr hj)))
 have hnd:(WT (i.om.eraseIdx x)).Nodup:=by
  have:=sep.D
  rw[PO i.om x,List.drop_eq_getElem_cons (by omega),X1] at this
  rw[List.eraseIdx_eq_take_drop_succ,X0]
  exact this.sublist (List.Sublist.append (List.Sublist.refl _) (List.sublist_append_right _ _))
 have hlt:=h.lt
 have hin:∀ {j},j ∈ i.l→j<σ.length:=fun hj=>hlt _ hj
 have hB:∀ j ∈ hs s2,σ.length≤j:=fun j hj=>dJ b2 hj
 have mA:∀ j ∈ hs i.bs,j<σ.length:=fun j hj=>hin (RI.Ka.2 (.inr (.inl hj)))
 have mC:∀ j ∈ hs i.fs,j<σ.length:=fun j hj=>hin (RI.Ka.2 (.inr (.inr (.inr (.inl hj)))))
 have mD:∀ j ∈ WT i.om,j<σ.length:=fun j hj=>hin (RI.Ka.2 (.inr (.inr (.inr (.inr hj)))))
 have mh:=hin i.R8
 have sep':Sep { i with os:=s2,om:=i.om.eraseIdx x }:=
  { hA:=sep.hA,hB:=fun hh=>Nat.not_lt.2 (hB _ hh) mh,hC:=sep.hC,hD:=fun hh=>sep.hD (hsub _ hh),
    AB:=fun a ha hh=>by have:=hB _ hh; have:=mA _ ha; omega,AC:=sep.AC,AD:=fun a ha hh=>sep.AD a ha (hsub _ hh),
    BC:=fun a ha hh=>by have:=hB _ ha; have:=mC _ hh; omega,BD:=fun a ha hh=>by have:=hB _ ha; have:=mD _ (hsub _ hh); omega,CD:=fun a ha hh=>sep.CD a ha (hsub _ hh),D:=hnd }
 have hlt2:∀ j ∈ RI.l { i with os:=s2,om:=i.om.eraseIdx x },j<(σ++τ2).length:=by
  intro j hj
  rcases RI.Ka.1 hj with hj | hj | hj | hj | hj
  ·have hj':j=i.hb:=hj
   rw[hj',List.length_append]; omega
  ·have:=mA _ hj; simp; omega
  ·obtain ⟨a,ha,rfl⟩:=JO.1 hj; exact sl2.lt a ha
  ·have:=mC _ hj; simp; omega
  ·have:=mD _ (hsub _ hj); simp; omega
 have hinn:∀ (y:Nat) (h1:y<(t.ob.eraseIdx x).length) (h2:y<(i.om.eraseIdx x).length),KX (σ++τ2) (i.om.eraseIdx x)[y].1 (t.ob.eraseIdx x)[y].refs∧KX (σ++τ2) (i.om.eraseIdx x)[y].2 (t.ob.eraseIdx x)[y].data:=by
  intro y h1 h2
  rw[List.getElem_eraseIdx,List.getElem_eraseIdx]
  split
  ·exact hg2.inn y (by omega) (by omega)
  ·have hl:=List.length_eraseIdx_of_lt hx
   exact hg2.inn (y+1) (by omega) (by omega)
 have hR:=NB.oH (i:={ i with os:=s2,om:=i.om.eraseIdx x }) (t:={ t with ob:=t.ob.eraseIdx x }) hg2.bl sl2 hg2.fw (by show (i.om.eraseIdx x).length=(t.ob.eraseIdx x).length; rw[List.length_eraseIdx_of_lt hx,List.length_eraseIdx_of_lt (by omega),hol]) hinn sep' hlt2
 refine ⟨_,s2, ?_,hR,⟨by simp,fun j hj hn=>?_,fun j hj=>?_,rfl⟩,b2,fun j hj hne=>?_⟩
 ·rw[VA,Sb]
  have w:Ac ((x:Int)+1)=((x+1:Nat):Int):=Ad (by unfold AW; omega)
  have est:AX.G0 (σ++τ2) i.hb 1 (.slice s2.1 s2.2.1 s2.2.2)=some ((σ++τ2).set i.hb (.cells [.slice i.bs.1 i.bs.2.1 i.bs.2.2,.slice s2.1 s2.2.1 s2.2.2,.slice i.fs.1 i.fs.2.1 i.fs.2.2,.int .i64 t.born] EI true)):=by
   simp[AX.G0,hg2.hp]
  simp only[Option.bind_some,Nat.zero_add,h.N0,e1,a1,hg.N0,w,e2,a2,est]
 ·have:i.hb≠j:=fun e=>hn (by rw[← e]; exact i.R8)
  rw[List.getElem?_set_ne this,List.getElem?_append_left hj]
 ·rcases RI.Ka.1 hj with hj | hj | hj | hj | hj
  ·exact .inl (by rw[hj]; exact i.R8)
  ·exact .inl (RI.Ka.2 (.inr (.inl hj)))
  ·exact .inr (hB _ hj)
  ·exact .inl (RI.Ka.2 (.inr (.inr (.inr (.inl hj)))))
  ·exact .inl (RI.Ka.2 (.inr (.inr (.inr (.inr (hsub _ hj))))))
 ·rw[List.getElem?_set_ne (Ne.symm hne),List.getElem?_append_left hj]
theorem bS (k:Nat) (h:NB σ i t) (hn:t.ob.length≤5000) {q:Nat} {a:Int} (hq:Ai .i64 σ q 0=some a):∀ (n x f:Nat),x+n=t.ob.length→n<f→EB k f (Ci i) q (x:Int) σ=some (.exit 0,[.int .i64 ((x+To (t.ob.drop x) a:Nat):Int)],σ)
 | 0,x,0,hx,hf=>by omega
 | 0,x,f+1,hx,hf=>by
   rw[Nt,Ln,List.drop_eq_nil_of_le (by omega)]
   simp only[Option.bind_some,Nat.zero_add,h.N0,decide_eq_false (show ¬ (x:Int)<((t.ob.length:Nat):Int) by omega),cond_false,To,Nat.add_zero]
 | n+1,x,0,hx,hf=>by omega
 | n+1,x,f+1,hx,hf=>by
   have hxl:x<t.ob.length:=by omega
   obtain ⟨b,e,hc,L⟩:=h.obj hxl
   have L:=L (by rw[h.ol]; exact hxl)
   have qx:(0≤(x:Int)∧(x:Int)<((t.ob.length:Nat):Int))=True:=eq_true (by omega)
   have w1:Ac ((x:Int)+1)=((x+1:Nat):Int):=Ad (by unfold AW; omega)
   rw[Nt,Ln,List.drop_eq_getElem_cons hxl,To]
   simp only[Option.bind_some,Nat.zero_add,Nat.add_zero,h.N0,decide_eq_true (show (x:Int)<((t.ob.length:Nat):Int) by omega),cond_true,qx,if_true,e,Int.toNat_natCast,L.l0,hq]
   by_cases g:t.ob[x].addr<a
   ·rw[decide_eq_true g,if_pos g]
    simp only[cond_true,w1]
    rw[bS k h hn hq n (x+1) f (by omega) (by omega),show x+1+To (t.ob.drop (x+1)) a=x+(To (t.ob.drop (x+1)) a+1) from by omega]
   ·rw[decide_eq_false g,if_neg g]
    simp only[cond_false,Nat.add_zero]
theorem YX {α:Type} (l:List α) (n:Nat) (hn:n≤l.length) (a:α) (y:Nat) (hy:y<(l.take n++a::l.drop n).length):(l.take n++a::l.drop n)[y]=if h:y<n then l[y] else if h2:y=n then a else l[y-1]'(by simp at hy; omega):=by
 have hl:(l.take n).length=n:=by rw[List.length_take]; omega
 split
 ·rename_i h
  rw[List.getElem_append_left (by omega),List.getElem_take]
 ·split
  ·rename_i h h2
   subst h2
   rw[List.getElem_append_right (by omega)]
   simp only[hl,Nat.sub_self,List.getElem_cons_zero]
  ·rename_i h h2
   obtain ⟨d,rfl⟩:∃ d,y=n+1+d:=⟨y-n-1,by omega⟩
   rw[List.getElem_append_right (by omega)]
   simp only[hl,show n+1+d-n=d+1 from by omega,List.getElem_cons_succ,List.getElem_drop]
   congr 1
   omega
theorem qt (k:Nat) (hk:5000≤k) (h:NB σ i t) (hn:t.ob.length≤4900) (o:RO) (p:E8 × E8) (hp1:KX σ p.1 o.refs) (hp2:KX σ p.2 o.data) (hpl:∀ j,j ∈ hs p.1∨j ∈ hs p.2→j<σ.length∧j ∉ i.l) (hpn:(hs p.1++hs p.2).Nodup):
  ∃ σ' os',GS (k+1) (Ci i) o.addr o.id o.r o.d o.k p.1 p.2 o.pin σ=some (.tuple #[],σ')∧NB σ' { i with os:=os',om:=i.om.take (To t.ob o.addr)++p::i.om.drop (To t.ob o.addr) } { t with ob:=UU t.ob o } ∧
   (∀ j,j<σ.length→j≠i.hb→σ'[j]?=σ[j]?)∧σ.length≤σ'.length∧(∀ a,os'.1=some a→σ.length≤a.block)∧(∀ j,j ∈ RI.l { i with os:=os',om:=i.om.take (To t.ob o.addr)++p::i.om.drop (To t.ob o.addr) }→j ∈ i.l∨j ∈ hs p.1∨j ∈ hs p.2∨σ.length≤j):=by
 have sep:=h.sep
 have hol:=h.ol
 obtain ⟨n,hN⟩:∃ n,To t.ob o.addr=n:=⟨_,rfl⟩
 have hnl:n≤t.ob.length:=by rw[← hN]; exact lE _ _
 obtain ⟨B,hB⟩:∃ B,Bi.cells (FI o p) Aj true=B:=⟨_,rfl⟩
 have hb:=h.app [B]
 have lq:∀ (τ:Aa) (x:Nat),Ai .i64 (σ++([B]++τ)) σ.length x=((FI o p)[x]?).bind (BA .i64):=fun τ x=>by rw[← hB]; simp[Ai,Gy]
 have lqs:∀ (τ:Aa) (x:Nat),Ew (σ++([B]++τ)) σ.length x=((FI o p)[x]?).bind H7:=fun τ x=>by rw[← hB]; simp[Ew,Gy]
 have lqb:∀ (τ:Aa) (x:Nat),WS (σ++([B]++τ)) σ.length x=((FI o p)[x]?).bind DF:=fun τ x=>by rw[← hB]; simp[WS,Gy]
 have e0:=bS k hb (by show t.ob.length≤5000; omega) (q:=σ.length) (a:=o.addr) (by have:=lq [] 0; rw[List.append_nil] at this; rw[this]; rfl) t.ob.length 0 k (by omega) (by omega)
 rw[List.drop_zero,Nat.zero_add,hN] at e0
 have e0':EB k k (Ci i) σ.length 0 (σ++[B])=_:=e0
 obtain ⟨src1,e1,s1,τ1,a1,sl1,b1⟩:=QW sP ss sV rfl rfl (by decide) (by decide) (by decide) (σ++[B]) [] (none,0,0) 0 [] (BQ.nil _ _ _) (by intro a ha; cases ha) (by rw[List.append_nil]; exact hb.ob) 0 n (by omega) hnl (by omega) none (some (.int .i64 (n:Int))) (.inr ⟨rfl,rfl⟩) (.inl rfl)
 rw[Nat.zero_mul,List.drop_zero,Nat.sub_zero,List.nil_append,Nat.zero_add,(Rl t.ob i.om hol n hnl).1] at sl1
 rw[List.append_nil] at e1 a1
 obtain ⟨s2,τ2,a2,sl2,b2⟩:=MN sP ss sV rfl rfl (by decide) (by decide) (by decide) (σ++[B]) τ1 s1 n _ 1 1 (FI o p) Aj (by omega) (by decide) rfl sl1 b1
 have a2':Bv P Aj (s1.1,s1.2.1,s1.2.2) (some ⟨(σ++[B]++τ1).length,0,none⟩,1,1) (σ++[B]++τ1++[Bi.cells [.int .i64 o.addr,.int .i64 o.id,.int .i64 o.r,.int .i64 o.d,.int .i64 o.k,.slice p.1.1 p.1.2.1 p.1.2.2,.slice p.2.1 p.2.2.1 p.2.2.2,.bool o.pin] Aj true])=some (s2,σ++[B]++τ2):=a2
 have hg2:=hb.app τ2
 obtain ⟨src3,e3,s3,τ3,a3,sl3,b3⟩:=QW sP ss sV rfl rfl (by decide) (by decide) (by decide) (σ++[B]) τ2 s2 (n+1) _ sl2 b2 hg2.ob n t.ob.length hnl (Nat.le_refl _) (by omega) (some (.int .i64 (n:Int))) none (.inl rfl) (.inr ⟨rfl,rfl⟩)
 rw[(Rl t.ob i.om hol n hnl).2,List.take_of_length_le (l:=HO (t.ob.drop n) (i.om.drop n)) (by rw[Vp _ _ (by simp; omega),List.length_drop]; exact Nat.le_refl _),List.append_assoc (HO (t.ob.take n) (i.om.take n)) (FI o p),show FI o p++HO (t.ob.drop n) (i.om.drop n)=HO (o::t.ob.drop n) (p::i.om.drop n) from rfl,← Vo _ _ _ _ (by simp; omega)] at sl3
 have hins:UU t.ob o=t.ob.take n++o::t.ob.drop n:=by unfold UU; rw[hN]
 have hlen:(UU t.ob o).length=n+1+(t.ob.length-n):=by rw[hins]; simp; omega
 rw[← hins,← hlen,List.append_assoc] at sl3
 have hg3:=h.app ([B]++τ3)
 have hlt:=h.lt
 have hin:∀ {j},j ∈ i.l→j<σ.length:=fun hj=>hlt _ hj
 have hB3:∀ j ∈ hs s3,σ.length≤j:=fun j hj=>by have:=dJ b3 hj; simp at this; omega
 have mA:∀ j ∈ hs i.bs,j<σ.length:=fun j hj=>hin (RI.Ka.2 (.inr (.inl hj)))
 have mC:∀ j ∈ hs i.fs,j<σ.length:=fun j hj=>hin (RI.Ka.2 (.inr (.inr (.inr (.inl hj)))))
 have mD:∀ j ∈ WT i.om,j<σ.length:=fun j hj=>hin (RI.Ka.2 (.inr (.inr (.inr (.inr hj)))))
 have mh:=hin i.R8
 have mem_om:∀ j,j ∈ WT (i.om.take n++p::i.om.drop n)↔j ∈ WT i.om∨j ∈ hs p.1∨j ∈ hs p.2:=by
  intro j
  rw[X0,X1,PO i.om n]
  simp only[List.mem_append]
  constructor
  ·rintro (h | (h | h) | h)
   ·exact .inl (.inl h)
   ·exact .inr (.inl h)
   ·exact .inr (.inr h)
   ·exact .inl (.inr h)
  ·rintro ((h | h) | h | h)
   ·exact .inl h
   ·exact .inr (.inr h)
   ·exact .inr (.inl (.inl h))
   ·exact .inr (.inl (.inr h))
 have hnd:(WT (i.om.take n++p::i.om.drop n)).Nodup:=by
  have hD:=sep.D
  rw[PO i.om n] at hD
  obtain ⟨d1,d2,d3⟩:=List.nodup_append.1 hD
  have out:∀ j,j ∈ hs p.1++hs p.2→j ∉ WT i.om:=fun j hj hm=>(hpl j (List.mem_append.1 hj)).2 (RI.Ka.2 (.inr (.inr (.inr (.inr hm)))))
  rw[X0,X1]
  refine List.nodup_append.2 ⟨d1,List.nodup_append.2 ⟨hpn,d2, ?_⟩, ?_⟩
  ·intro a ha b hb' e
   subst e
   exact out a ha (by rw[PO i.om n]; exact List.mem_append.2 (.inr hb'))
  ·intro a ha b hb' e
   subst e
   rcases List.mem_append.1 hb' with hb' | hb'
   ·exact out a hb' (by rw[PO i.om n]; exact List.mem_append.2 (.inl ha))
   ·exact d3 a ha a hb' rfl
 have pout:∀ {j},j ∈ WT (i.om.take n++p::i.om.drop n)→j<σ.length:=fun hj=>by
  rcases (mem_om _).1 hj with hj | hj
  ·exact mD _ hj
  ·exact (hpl _ hj).1
 have pne:∀ {j},j ∈ i.hb::(hs i.bs++hs i.fs)→j ∉ WT (i.om.take n++p::i.om.drop n):=fun {j} hj hm=>by
  rcases (mem_om _).1 hm with hm | hm
  ·rcases List.mem_cons.1 hj with e | hj
   ·exact sep.hD (e ▸ hm)
   ·rcases List.mem_append.1 hj with hj | hj
    ·exact sep.AD _ hj hm
    ·exact sep.CD _ hj hm
  ·refine (hpl _ hm).2 ?_
   rcases List.mem_cons.1 hj with e | hj
   ·rw[e]; exact i.R8
   ·rcases List.mem_append.1 hj with hj | hj
    ·exact RI.Ka.2 (.inr (.inl hj))
    ·exact RI.Ka.2 (.inr (.inr (.inr (.inl hj))))
 rw[hN]
 have sep':Sep { i with os:=s3,om:=i.om.take n++p::i.om.drop n }:=
  { hA:=sep.hA,hB:=fun hh=>Nat.not_lt.2 (hB3 _ hh) mh,hC:=sep.hC,hD:=fun hh=>pne (List.mem_cons_self) hh,
    AB:=fun a ha hh=>by have:=hB3 _ hh; have:=mA _ ha; omega,AC:=sep.AC,AD:=fun a ha hh=>pne (List.mem_cons_of_mem _ (List.mem_append.2 (.inl ha))) hh,
    BC:=fun a ha hh=>by have:=hB3 _ ha; have:=mC _ hh; omega,BD:=fun a ha hh=>by have:=hB3 _ ha; have:=pout hh; omega,CD:=fun a ha hh=>pne (List.mem_cons_of_mem _ (List.mem_append.2 (.inr ha))) hh,D:=hnd }
 have hlt2:∀ j ∈ RI.l { i with os:=s3,om:=i.om.take n++p::i.om.drop n },j<(σ++([B]++τ3)).length:=by
  intro j hj
  rcases RI.Ka.1 hj with hj | hj | hj | hj | hj
  ·have hj':j=i.hb:=hj
   rw[hj',List.length_append]; omega
  ·have:=mA _ hj; simp; omega
  ·obtain ⟨a,ha,rfl⟩:=JO.1 hj; exact sl3.lt a ha
  ·have:=mC _ hj; simp; omega
  ·have:=pout hj; simp; omega
 have hinn:∀ (y:Nat) (h1:y<(UU t.ob o).length) (h2:y<(i.om.take n++p::i.om.drop n).length),KX (σ++([B]++τ3)) (i.om.take n++p::i.om.drop n)[y].1 (UU t.ob o)[y].refs∧KX (σ++([B]++τ3)) (i.om.take n++p::i.om.drop n)[y].2 (UU t.ob o)[y].data:=by
  intro y h1 h2
  simp only[hins] at h1 ⊢
  rw[YX t.ob n hnl o y h1,YX i.om n (by omega) p y h2]
  have hl1:(t.ob.take n++o::t.ob.drop n).length=t.ob.length+1:=by simp; omega
  by_cases c1:y<n
  ·simp only[c1,dite_true]
   exact hg3.inn y (by omega) (by omega)
  ·by_cases c2:y=n
   ·simp only[c1,c2,dite_false,dite_true,Nat.lt_irrefl]
    exact ⟨hp1.app _,hp2.app _⟩
   ·simp only[c1,c2,dite_false]
    exact hg3.inn (y-1) (by omega) (by omega)
 have hR:=NB.oH (i:={ i with os:=s3,om:=i.om.take n++p::i.om.drop n }) (t:={ t with ob:=UU t.ob o }) hg3.bl sl3 hg3.fw (by show (i.om.take n++p::i.om.drop n).length=(UU t.ob o).length; rw[hlen]; simp; omega) hinn sep' hlt2
 refine ⟨_,s3, ?_,hR,fun j hj hne=>?_,by simp,fun a ha=>by have:=b3 a ha; simp at this; omega,fun j hj=>?_⟩
 ·rw[VB,Sc]
  have est:AX.G0 (σ++([B]++τ3)) i.hb 1 (.slice s3.1 s3.2.1 s3.2.2)=some ((σ++([B]++τ3)).set i.hb (.cells [.slice i.bs.1 i.bs.2.1 i.bs.2.2,.slice s3.1 s3.2.1 s3.2.2,.slice i.fs.1 i.fs.2.1 i.fs.2.2,.int .i64 t.born] EI true)):=by
   have hh:=hg3.hp
   generalize σ++([B]++τ3)=μ at hh ⊢
   simp[AX.G0,hh]
  have c0:∀ τ,Ai .i64 (σ++[B]++τ) σ.length 0=some o.addr:=fun τ=>by rw[List.append_assoc,lq]; rfl
  have c1:∀ τ,Ai .i64 (σ++[B]++τ) σ.length 1=some o.id:=fun τ=>by rw[List.append_assoc,lq]; rfl
  have c2:∀ τ,Ai .i64 (σ++[B]++τ) σ.length 2=some o.r:=fun τ=>by rw[List.append_assoc,lq]; rfl
  have c3:∀ τ,Ai .i64 (σ++[B]++τ) σ.length 3=some o.d:=fun τ=>by rw[List.append_assoc,lq]; rfl
  have c4:∀ τ,Ai .i64 (σ++[B]++τ) σ.length 4=some o.k:=fun τ=>by rw[List.append_assoc,lq]; rfl
  have c5:∀ τ,Ew (σ++[B]++τ) σ.length 5=some (p.1.1,p.1.2.1,p.1.2.2):=fun τ=>by rw[List.append_assoc,lqs]; rfl
  have c6:∀ τ,Ew (σ++[B]++τ) σ.length 6=some (p.2.1,p.2.2.1,p.2.2.2):=fun τ=>by rw[List.append_assoc,lqs]; rfl
  have c7:∀ τ,WS (σ++[B]++τ) σ.length 7=some o.pin:=fun τ=>by rw[List.append_assoc,lqb]; rfl
  have hBox:Bi.cells [.int .i64 o.addr,.int .i64 o.id,.int .i64 o.r,.int .i64 o.d,.int .i64 o.k,.slice p.1.1 p.1.2.1 p.1.2.2,.slice p.2.1 p.2.2.1 p.2.2.2,.bool o.pin] Aj true=B:=hB
  rw[← List.append_assoc] at est
  simp only[Ap,hBox,e0',Option.bind_some,if_true,D4,Nat.zero_add,Nat.add_assoc,Nat.reduceAdd,hb.N0,e1,a1,c0,c1,c2,c3,c4,c5,c6,c7]
  rw[← hBox] at a2' ⊢
  simp only[a2',Option.bind_some]
  rw[hBox]
  simp only[hg2.N0,e3,a3,Option.bind_some,est]
  simp only[List.append_assoc]
 ·rw[List.getElem?_set_ne (Ne.symm hne),List.getElem?_append_left hj]
 ·rcases RI.Ka.1 hj with hj | hj | hj | hj | hj
  ·exact .inl (by rw[hj]; exact i.R8)
  ·exact .inl (RI.Ka.2 (.inr (.inl hj)))
  ·exact .inr (.inr (.inr (hB3 _ hj)))
  ·exact .inl (RI.Ka.2 (.inr (.inr (.inr (.inl hj)))))
  ·rcases (mem_om _).1 hj with hj | hj | hj
   ·exact .inl (RI.Ka.2 (.inr (.inr (.inr (.inr hj)))))
   ·exact .inr (.inl hj)
   ·exact .inr (.inr (.inl hj))
end Go.Proofs.YtlaplcglpnlieaaGreat
end
section
namespace Go.Proofs.YtlaplcglpnlieaaGreat
open Go Go.AX
noncomputable local instance wg:AF:=Au
local instance uR:Kn:=⟨true⟩
variable {σ:Aa} {m:HM} {t:RM} {i:RI}
theorem oT (k:Nat) (hk:5000≤k) (h:RG σ i m t) (hP:NS m) (hS:Sh m) (a:Int):Hp (Fu (k+4) (Ci i) a σ) σ i (.int .i64 (OV m a).1) (OV m a).2:=by
 have hol:=h.ol
 rw[U6,Rc]
 have hix:=ix (k+1) (by omega) h a
 simp only[oZ k hk h a,Option.bind_some,Am]
 unfold OV
 cases hh:Qw m a with
 | false=>
   simp only[Bool.false_eq_true,if_false,tM,cond_true]
   exact Hp.Rs h hP rfl
 | true=>
   obtain ⟨x,j,b,p,F⟩:=h.found hh
   obtain ⟨σ',os',e,h',k',_,_⟩:=qo (k+2) h.at_ (by omega) F.xl
   have ea:a.toNat/2=j:=by rw[F.e,Int.toNat_natCast]; omega
   obtain ⟨s1,s2⟩:=h.sim.kill h.inv hS hP F.st F.all
   rw[ea]
   simp only[if_true,bne_self_eq_false,cond_false,hix,Option.bind_some,Am,F.idx,e,Ju]
   exact ⟨σ',_,_,rfl,h',s1,s2,k'⟩
end Go.Proofs.YtlaplcglpnlieaaGreat
end
