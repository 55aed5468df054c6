/- The document's heap: what turns in memory; blocks are claimed, released, retagged.; The document's heap: blocks claimed, released, retagged.; The docu -/
import Derived.Test.YtlaplcglpnlieaaGreatP16
set_option linter.unusedVariables false
set_option linter.unusedSimpArgs false
set_option linter.unusedSectionVars false
section
namespace Go.Proofs.YtlaplcglpnlieaaGreat
open Go Go.AX
noncomputable local instance wJ:AK:=As
local instance vq:Kn:=⟨true⟩
variable {σ:Aa} {m:HM} {t:RM} {i:RI}
def Xw (om:List (En × En)):List Nat:=om.flatMap fun p=>hs p.1++hs p.2
theorem ca (s:En):(hs s).Nodup:=by
 unfold hs
 cases s.1 <;> simp
theorem RI.Ku {j:Nat}:j ∈ i.l↔j=i.hb∨j ∈ hs i.bs∨j ∈ hs i.os∨j ∈ hs i.fs∨j ∈ Xw i.om:=by
 unfold RI.l Xw
 simp only[List.mem_cons,List.mem_append]
structure Sep (i:RI):Prop where
 hA:i.hb ∉ hs i.bs
 hB:i.hb ∉ hs i.os
 hC:i.hb ∉ hs i.fs
 hD:i.hb ∉ Xw i.om
 AB:∀ a ∈ hs i.bs,a ∉ hs i.os
 AC:∀ a ∈ hs i.bs,a ∉ hs i.fs
 AD:∀ a ∈ hs i.bs,a ∉ Xw i.om
 BC:∀ a ∈ hs i.os,a ∉ hs i.fs
 BD:∀ a ∈ hs i.os,a ∉ Xw i.om
 CD:∀ a ∈ hs i.fs,a ∉ Xw i.om
 D:(Xw i.om).Nodup
theorem Sep.of (h:i.l.Nodup):Sep i:=by
 have h:(i.hb::(hs i.bs++(hs i.os++(hs i.fs++Xw i.om)))).Nodup:=h
 obtain ⟨h1,h2⟩:=List.nodup_cons.1 h
 simp only[List.mem_append,not_or] at h1
 obtain ⟨_,h3,h4⟩:=List.nodup_append.1 h2
 obtain ⟨_,h5,h6⟩:=List.nodup_append.1 h3
 obtain ⟨_,h7,h8⟩:=List.nodup_append.1 h5
 exact ⟨h1.1,h1.2.1,h1.2.2.1,h1.2.2.2,fun a ha hb=>h4 a ha a (List.mem_append.2 (.inl hb)) rfl,fun a ha hb=>h4 a ha a (List.mem_append.2 (.inr (List.mem_append.2 (.inl hb)))) rfl,fun a ha hb=>h4 a ha a (List.mem_append.2 (.inr (List.mem_append.2 (.inr hb)))) rfl,
  fun a ha hb=>h6 a ha a (List.mem_append.2 (.inl hb)) rfl,fun a ha hb=>h6 a ha a (List.mem_append.2 (.inr hb)) rfl,fun a ha hb=>h8 a ha a hb rfl,h7⟩
theorem Sep.nd (h:Sep i):i.l.Nodup:=by
 show (i.hb::(hs i.bs++(hs i.os++(hs i.fs++Xw i.om)))).Nodup
 refine List.nodup_cons.2 ⟨?_,List.nodup_append.2 ⟨ca _,List.nodup_append.2 ⟨ca _,List.nodup_append.2 ⟨ca _,h.D, ?_⟩, ?_⟩, ?_⟩⟩
 ·simp only[List.mem_append,not_or]
  exact ⟨h.hA,h.hB,h.hC,h.hD⟩
 ·intro a ha b hb e
  subst e
  exact h.CD a ha hb
 ·intro a ha b hb e
  subst e
  rcases List.mem_append.1 hb with hb | hb
  ·exact h.BC a ha hb
  ·exact h.BD a ha hb
 ·intro a ha b hb e
  subst e
  rcases List.mem_append.1 hb with hb | hb
  ·exact h.AB a ha hb
  ·rcases List.mem_append.1 hb with hb | hb
   ·exact h.AC a ha hb
   ·exact h.AD a ha hb
theorem NV.sep (h:NV σ i t):Sep i:=Sep.of h.nd
theorem Xi {om:List (En × En)} {x b:Nat} (hx:x<om.length) (h:b ∈ hs om[x].1∨b ∈ hs om[x].2):b ∈ Xw om:=
 List.mem_flatMap.2 ⟨_,List.getElem_mem hx,List.mem_append.2 h⟩
theorem XP {s:En} {q:Nat} (e:s.1=some ⟨q,0,none⟩):q ∈ hs s:=Kj.2 ⟨_,e,rfl⟩
theorem Ql {L:List Nat} {q b:Nat} {c:AY} (hq:q ∉ L) (hb:b ∈ L):(σ.set q c)[b]?=σ[b]?:=
 List.getElem?_set_ne (fun e:q=b=>hq (by rw[e]; exact hb))
structure Hf (i i':RI) (σ σ':Aa):Prop where
 len:σ.length≤σ'.length
 same:∀ j,j<σ.length→j ∉ i.l→σ'[j]?=σ[j]?
 new:∀ j,j ∈ i'.l→j ∈ i.l∨σ.length≤j
 hb:i'.hb=i.hb
theorem Hf.refl (i:RI) (σ:Aa):Hf i i σ σ:=⟨Nat.le_refl _,fun _ _ _=>rfl,fun _ h=>.inl h,rfl⟩
theorem Hf.app (i:RI) (σ τ:Aa):Hf i i σ (σ++τ):=⟨by simp,fun j hj _=>List.getElem?_append_left hj,fun _ h=>.inl h,rfl⟩
theorem Hf.trans {a b c:Aa} {i i' i'':RI} (h:Hf i i' a b) (g:Hf i' i'' b c):Hf i i'' a c:=by
 refine ⟨Nat.le_trans h.len g.len,fun j h1 h2=>?_,fun j hj=>?_,g.hb.trans h.hb⟩
 ·refine (g.same j (Nat.lt_of_lt_of_le h1 h.len) fun hm=>?_).trans (h.same j h1 h2)
  rcases h.new j hm with h3 | h3
  ·exact h2 h3
  ·omega
 ·rcases g.new j hj with h1 | h1
  ·exact h.new j h1
  ·exact .inr (Nat.le_trans h.len h1)
theorem Hf.set {q:Nat} (σ:Aa) (c:AY) (h:q ∈ i.l):Hf i i σ (σ.set q c):=
 ⟨by simp,fun j hj hn=>List.getElem?_set_ne (fun e:q=j=>hn (by rw[← e]; exact h)),fun _ h=>.inl h,rfl⟩
def Hw (mm:Option (Value × Aa)) (σ:Aa) (i:RI) (v:Value) (m':HM):Prop:=
 ∃ σ' i' t',mm=some (v,σ')∧NV σ' i' t'∧St m' t'∧Oo m'∧Hf i i' σ σ'
theorem Hw.same (h:RG σ i m t) (hP:Oo m) (τ:Aa) {v:Value} {mm:Option (Value × Aa)} (he:mm=some (v,σ++τ)):Hw mm σ i v m:=
 ⟨σ++τ,i,t,he,h.at_.app τ,h.sim,hP,Hf.app i σ τ⟩
theorem Hw.RL (h:RG σ i m t) (hP:Oo m) {v:Value} {mm:Option (Value × Aa)} (he:mm=some (v,σ)):Hw mm σ i v m:=
 ⟨σ,i,t,he,h.at_,h.sim,hP,Hf.refl i σ⟩
theorem NV.p9 {μ:Aa} {i:RI} {t:RM} (bl:Cj AA 2 μ i.bs t.bl.length (CG t.bl)) (ob:Cj Ak 8 μ i.os t.ob.length (HY t.ob i.om)) (fw:fU μ i.fs t.fw) (ol:i.om.length=t.ob.length)
  (inn:∀ (x:Nat) (h:x<t.ob.length) (h':x<i.om.length),Lr μ i.om[x].1 t.ob[x].refs∧Lr μ i.om[x].2 t.ob[x].data) (sep:Sep i) (lt:∀ j ∈ i.l,j<μ.length):
  NV (μ.set i.hb (.cells [.slice i.bs.1 i.bs.2.1 i.bs.2.2,.slice i.os.1 i.os.2.1 i.os.2.2,.slice i.fs.1 i.fs.2.1 i.fs.2.2,.int .i64 t.born] EJ true)) i t where
 hp:=List.getElem?_set_self (lt _ i.RY)
 bl:=bl.CX fun a ha=>Ql (sep.hA) (Kj.2 ⟨a,ha,rfl⟩)
 ob:=ob.CX fun a ha=>Ql (sep.hB) (Kj.2 ⟨a,ha,rfl⟩)
 fw:=fw.CX fun a ha=>Ql (sep.hC) (Kj.2 ⟨a,ha,rfl⟩)
 ol:=ol
 inn:=fun x h h'=>⟨(inn x h h').1.CX fun b hb=>Ql (sep.hD) (Xi h' (.inl hb)),(inn x h h').2.CX fun b hb=>Ql (sep.hD) (Xi h' (.inr hb))⟩
 nd:=sep.nd
 lt:=fun j hj=>by rw[List.length_set]; exact lt j hj
theorem NV.fG (h:NV σ i t) {q:Nat} (e:i.bs.1=some ⟨q,0,none⟩) (l':List (Int × Int)) (hl:l'.length=t.bl.length):NV (σ.set q (.cells (CG l') AA true)) i { t with bl:=l' }:=by
 have sep:=h.sep
 have hq:=XP e
 have hlt:=h.lt q (RI.Ku.2 (.inr (.inl hq)))
 refine { hp:=?_,bl:=?_,ob:=?_,fw:=?_,ol:=h.ol,inn:=?_,nd:=h.nd,lt:=fun j hj=>by rw[List.length_set]; exact h.lt j hj }
 ·rw[List.getElem?_set_ne (fun e':q=i.hb=>sep.hA (by rw[← e']; exact hq))]; exact h.hp
 ·have:=h.bl.form
  rw[e] at this
  exact .inr ⟨q,by rw[this,hl],Nat.zero_le _,by rw[Gm]; omega,List.getElem?_set_self hlt⟩
 ·exact h.ob.CX fun a ha=>Ql (sep.AB q hq) (Kj.2 ⟨a,ha,rfl⟩)
 ·exact h.fw.CX fun a ha=>Ql (sep.AC q hq) (Kj.2 ⟨a,ha,rfl⟩)
 ·intro x h1 h2
  exact ⟨(h.inn x h1 h2).1.CX fun b hb=>Ql (sep.AD q hq) (Xi h2 (.inl hb)),(h.inn x h1 h2).2.CX fun b hb=>Ql (sep.AD q hq) (Xi h2 (.inr hb))⟩
theorem NV.sG (h:NV σ i t) {b:Nat} (hb:b<t.bl.length) (x y:Int):∃ q,i.bs.1=some ⟨q,0,none⟩∧JM σ q (b*2) [.int .i64 x,.int .i64 y]=some (σ.set q (.cells (CG (t.bl.set b (x,y))) AA true)) ∧
  NV (σ.set q (.cells (CG (t.bl.set b (x,y))) AA true)) i { t with bl:=t.bl.set b (x,y) }∧Hf i i σ (σ.set q (.cells (CG (t.bl.set b (x,y))) AA true)):=by
 obtain ⟨q,e,l0,l1,hc⟩:=VR h.bl hb
 refine ⟨q,e, ?_,h.fG e _ (by simp),Hf.set _ _ (RI.Ku.2 (.inr (.inl (XP e))))⟩
 have:b*2+2≤(CG t.bl).length:=by rw[Gm]; omega
 simp only[JM,hc,List.length_cons,List.length_nil,Nat.zero_add,Nat.reduceAdd,this,if_true,S9 _ _ _ _ hb]
theorem NV.tZ (h:NV σ i t) {b:Nat} (hb:b<t.bl.length) (y:Int):∃ q,i.bs.1=some ⟨q,0,none⟩∧AX.G7 σ q (b*2+1) (.int .i64 y)=some (σ.set q (.cells (CG (t.bl.set b ((t.bl.getD b (0,0)).1,y))) AA true)) ∧
  NV (σ.set q (.cells (CG (t.bl.set b ((t.bl.getD b (0,0)).1,y))) AA true)) i { t with bl:=t.bl.set b ((t.bl.getD b (0,0)).1,y) }∧Hf i i σ (σ.set q (.cells (CG (t.bl.set b ((t.bl.getD b (0,0)).1,y))) AA true)):=by
 obtain ⟨q,e,l0,l1,hc⟩:=VR h.bl hb
 refine ⟨q,e, ?_,h.fG e _ (by simp),Hf.set _ _ (RI.Ku.2 (.inr (.inl (XP e))))⟩
 have:b*2+1<(CG t.bl).length:=by rw[Gm]; omega
 simp only[AX.G7,hc,this,if_true,dP _ _ _ hb]
theorem il (l:List (Int × Int)) (b:Nat) (x:Int) (hb:b<l.length):(CG l).set (b*2) (.int .i64 x)=CG (l.set b (x,(l.getD b (0,0)).2)):=by
 rw[S9 _ _ _ _ hb]
 have h1:=(S8 l b hb).2
 rw[Nat.mul_comm] at h1
 have hlen:=Gm l
 apply List.ext_getElem?
 intro p
 unfold AE
 by_cases hp:p=b*2
 ·subst hp
  rw[List.getElem?_set_self (by omega),List.append_assoc,List.getElem?_append_right (by simp; omega)]
  simp[List.length_take,Nat.min_eq_left (show b*2≤(CG l).length by omega)]
 ·rw[List.getElem?_set_ne (Ne.symm hp),List.append_assoc]
  by_cases h2:p<b*2
  ·rw[List.getElem?_append_left (by simp; omega),List.getElem?_take_of_lt h2]
  ·rw[List.getElem?_append_right (by simp; omega),List.length_take,Nat.min_eq_left (show b*2≤(CG l).length by omega)]
   by_cases h3:p=b*2+1
   ·subst h3
    rw[h1,show b*2+1-b*2=1 from by omega]
    rfl
   ·rw[List.getElem?_append_right (by simp; omega),List.getElem?_drop]
    congr 1
    simp only[List.length_cons,List.length_nil]
    omega
theorem NV.uy (h:NV σ i t) {b:Nat} (hb:b<t.bl.length) (x:Int):∃ q,i.bs.1=some ⟨q,0,none⟩∧AX.G7 σ q (b*2) (.int .i64 x)=some (σ.set q (.cells (CG (t.bl.set b (x,(t.bl.getD b (0,0)).2))) AA true)) ∧
  NV (σ.set q (.cells (CG (t.bl.set b (x,(t.bl.getD b (0,0)).2))) AA true)) i { t with bl:=t.bl.set b (x,(t.bl.getD b (0,0)).2) }∧Hf i i σ (σ.set q (.cells (CG (t.bl.set b (x,(t.bl.getD b (0,0)).2))) AA true)):=by
 obtain ⟨q,e,l0,l1,hc⟩:=VR h.bl hb
 refine ⟨q,e, ?_,h.fG e _ (by simp),Hf.set _ _ (RI.Ku.2 (.inr (.inl (XP e))))⟩
 have:b*2<(CG t.bl).length:=by rw[Gm]; omega
 simp only[AX.G7,hc,this,if_true,il _ _ _ hb]
theorem Ps (l:List (Int × Int)) (b c:Nat) (e:Int × Int):(l.set b e).getD c (0,0)=if c=b∧b<l.length then e else l.getD c (0,0):=by
 rw[List.getD_eq_getElem?_getD,List.getElem?_set]
 by_cases h:b=c
 ·subst h
  by_cases h2:b<l.length
  ·simp[h2]
  ·simp[h2]
 ·rw[if_neg h,if_neg (fun hh=>h hh.1.symm),List.getD_eq_getElem?_getD]
theorem XC (b:Nat) (e:Int × Int):∀ (n x:Nat) (l:List (Int × Int)) (c:Nat),b+x+n≤l.length→(Wh l b e n x).getD c (0,0)=if b+x≤c∧c<b+x+n then e else l.getD c (0,0)
 | 0,x,l,c,h=>by rw[Wh,if_neg (by omega)]
 | n+1,x,l,c,h=>by
   rw[Wh,XC b e n (x+1) _ c (by rw[List.length_set]; omega),Ps]
   by_cases h1:b+(x+1)≤c∧c<b+(x+1)+n
   ·rw[if_pos h1,if_pos (show b+x≤c∧c<b+x+(n+1) by omega)]
   ·rw[if_neg h1]
    by_cases h2:c=b+x
    ·rw[if_pos ⟨h2,by omega⟩,if_pos (show b+x≤c∧c<b+x+(n+1) by omega)]
    ·rw[if_neg (show ¬ (c=b+x∧b+x<l.length) from fun hh=>h2 hh.1),if_neg (show ¬ (b+x≤c∧c<b+x+(n+1)) by omega)]
theorem de (b:Nat) (y:Int):∀ (n:Nat) (l:List (Int × Int)) (c:Nat),b+n≤l.length→(Wr l b y n).getD c (0,0)=if b≤c∧c<b+n then ((l.getD c (0,0)).1,y) else l.getD c (0,0)
 | 0,l,c,h=>by rw[Wr,if_neg (by omega)]
 | n+1,l,c,h=>by
   rw[Wr,de b y n _ c (by rw[List.length_set]; omega),Ps]
   by_cases h2:c=b+n
   ·subst h2
    rw[if_neg (show ¬ (b≤b+n∧b+n<b+n) by omega),if_pos ⟨rfl,by omega⟩,if_pos (show b≤b+n∧b+n<b+(n+1) by omega)]
   ·rw[if_neg (show ¬ (c=b+n∧b+n<l.length) from fun hh=>h2 hh.1)]
    by_cases h1:b≤c∧c<b+n
    ·rw[if_pos h1,if_pos (show b≤c∧c<b+(n+1) by omega)]
    ·rw[if_neg h1,if_neg (show ¬ (b≤c∧c<b+(n+1)) by omega)]
def jN (l:List (Int × Int)) (b:Nat) (y:Int):Nat→Nat→List (Int × Int)
 | 0,_=>l
 | n+1,x=>jN (l.set (b+x) ((l.getD (b+x) (0,0)).1,y)) b y n (x+1)
theorem ZP (b:Nat) (y:Int):∀ (n x:Nat) (l:List (Int × Int)),(jN l b y n x).length=l.length
 | 0,x,l=>rfl
 | n+1,x,l=>by rw[jN,ZP b y n]; simp
theorem fJ (b:Nat) (y:Int):∀ (n x:Nat) (l:List (Int × Int)) (c:Nat),b+x+n≤l.length→(jN l b y n x).getD c (0,0)=if b+x≤c∧c<b+x+n then ((l.getD c (0,0)).1,y) else l.getD c (0,0)
 | 0,x,l,c,h=>by rw[jN,if_neg (by omega)]
 | n+1,x,l,c,h=>by
   rw[jN,fJ b y n (x+1) _ c (by rw[List.length_set]; omega),Ps]
   by_cases h2:c=b+x
   ·subst h2
    rw[if_neg (show ¬ (b+(x+1)≤b+x∧b+x<b+(x+1)+n) by omega),if_pos ⟨rfl,by omega⟩,if_pos (show b+x≤b+x∧b+x<b+x+(n+1) by omega)]
   ·rw[if_neg (show ¬ (c=b+x∧b+x<l.length) from fun hh=>h2 hh.1)]
    by_cases h1:b+(x+1)≤c∧c<b+(x+1)+n
    ·rw[if_pos h1,if_pos (show b+x≤c∧c<b+x+(n+1) by omega)]
    ·rw[if_neg h1,if_neg (show ¬ (b+x≤c∧c<b+x+(n+1)) by omega)]
theorem iH {l l':List (Int × Int)} (hl:l.length=l'.length) (h:∀ c,l.getD c (0,0)=l'.getD c (0,0)):l=l':=by
 apply List.ext_getElem hl
 intro n h1 h2
 have:=h n
 rw[List.getD_eq_getElem?_getD,List.getD_eq_getElem?_getD,List.getElem?_eq_getElem h1,List.getElem?_eq_getElem h2] at this
 exact this
theorem qC {l:List (Int × Int)} {b n:Nat} (h:b+n≤l.length):Wh l b (0,0) n 0=Yi l b n:=
 iH (by rw[Fu,Py]) fun c=>by rw[XC b _ n 0 l c (by omega),OE b n l c,Nat.add_zero]
theorem pZ {l:List (Int × Int)} {b n:Nat} {y:Int} (h:b+n≤l.length):jN l b y n 0=Wr l b y n:=
 iH (by rw[ZP,P1]) fun c=>by rw[fJ b y n 0 l c (by omega),de b y n l c h,Nat.add_zero]
def FZ (m:HM):Prop:=∀ c,(m.bls.getD c (0,0)).1=0→(m.bls.getD c (0,0)).2=0
theorem Ym {b:Nat}:∀ (f n:Nat),(m.bls.getD b (0,0)).1=1∨(m.bls.getD b (0,0)).1=2→1≤n→(∀ c,1≤c→c<n→(m.bls.getD (b+c) (0,0)).1=3) → ∀ c,c<EO m b f n→(m.bls.getD (b+c) (0,0)).1≠0
 | 0,n,h,hn,h3,c,hc=>by
   rw[EO] at hc
   by_cases c0:c=0
   ·subst c0; rw[Nat.add_zero]; omega
   ·rw[h3 c (by omega) hc]; decide
 | f+1,n,h,hn,h3,c,hc=>by
   rw[EO] at hc
   split at hc
   ·rename_i hcond
    exact Ym f (n+1) h (by omega) (fun c' h1 h2=>by
     by_cases e:c'=n
     ·rw[e]; exact hcond.2.2
     ·exact h3 c' h1 (by omega)) c hc
   ·by_cases c0:c=0
    ·subst c0; rw[Nat.add_zero]; omega
    ·rw[h3 c (by omega) hc]; decide
theorem Wb {l:List (Int × Int)} {b:Nat} (hz:∀ c,(l.getD c (0,0)).1=0→(l.getD c (0,0)).2=0):∀ (n x:Nat),Iv l b n x=none ↔ ∀ c,x≤c→c<x+n→(l.getD (b+c) (0,0)).1=0
 | 0,x=>by simp[Iv]; intro c h1 h2; omega
 | n+1,x=>by
   rw[Iv]
   by_cases h:(l.getD (b+x) (0,0)).1=0
   ·rw[if_pos ⟨h,hz _ h⟩,Wb hz n (x+1)]
    constructor
    ·intro g c h1 h2
     by_cases e:c=x
     ·rw[e]; exact h
     ·exact g c (by omega) (by omega)
    ·intro g c h1 h2
     exact g c (by omega) (by omega)
   ·rw[if_neg (fun hh=>h hh.1)]
    constructor
    ·intro g; cases g
    ·intro g; exact absurd (g x (Nat.le_refl _) (by omega)) h
end Go.Proofs.YtlaplcglpnlieaaGreat
end
section
namespace Go.Proofs.YtlaplcglpnlieaaGreat
open Go Go.AX
noncomputable local instance wK:AK:=As
local instance vr:Kn:=⟨true⟩
variable {σ:Aa} {m:HM} {t:RM} {i:RI}
theorem VV (k:Nat) (h:RG σ i m t) (b:Int):Cx (k+1) (Cg i) b σ=some (.bool (decide (1≤b∧b<(m.bls.length:Int))),σ):=by
 rw[U7,Q6]
 by_cases h0:1≤b
 ·rw[decide_eq_true (show b≥1 from h0)]
  simp only[cond_true,Option.bind_some,Nat.zero_add,Nat.add_zero,h.at_.SN,h.bn,h0,true_and]
 ·rw[decide_eq_false (show ¬ b≥1 from h0),decide_eq_false (fun hh=>h0 hh.1)]
  simp only[cond_false,Option.bind_some]
theorem Zf (k:Nat) (y:Int) (σ:Aa):Gp (k+1) y σ=some (.bool (UD y),σ):=by
 rw[YL,Wz]
 unfold UD
 by_cases h0:0≤y <;> simp[h0]
theorem fj (k:Nat) (h:RG σ i m t) (hP:Oo m) (hz:FZ m) (b s:Int):Hw (CR (k+2) (Cg i) b s σ) σ i (.int .i64 (Bs m b 1 1 s 0 0).1) (Bs m b 1 1 s 0 0).2:=by
 have hnt:=h.nt
 rw[Uz,Qx]
 simp only[I9 k h,VV k h b,Zf k s,Option.bind_some,Au,Bool.not_true,cond_false]
 unfold Bs
 by_cases g0:1≤b∧b<(m.bls.length:Int)
 rotate_left
 ·rw[if_neg (fun hh=>g0 ⟨hh.1,hh.2.1⟩),decide_eq_false g0]
  exact Hw.RL h hP (by simp only[Bool.not_false,cond_true,Option.bind_some])
 rw[decide_eq_true g0]
 simp only[Bool.not_true,cond_false,Option.bind_some]
 cases hs:UD s with
 | false=>
   rw[if_neg (fun hh=>by have:=hh.2.2.2.2; cases this)]
   exact Hw.RL h hP (by simp only[Bool.not_false,cond_true])
 | true=>
   rw[if_pos ⟨g0.1,g0.2,by omega,by omega,rfl⟩]
   obtain ⟨n,rfl⟩:∃ n:Nat,b=(n:Int):=⟨b.toNat,by omega⟩
   have hn:n<m.bls.length:=by omega
   obtain ⟨q,e,l0,l1,hc⟩:=Yh h hn
   have qx:(0≤(n:Int)∧(n:Int)<((m.bls.length:Nat):Int))=True:=eq_true (by omega)
   simp only[Bool.not_true,cond_false,Nat.zero_add,Nat.add_zero,h.at_.SN,h.bn,Option.bind_some,qx,if_true,e,Int.toNat_natCast,l0,show (1:Int).toNat=1 from rfl]
   have hu:Iv m.bls n 1 0=none↔(m.bls.getD n (0,0)).1=0:=by
    rw[Wb hz]
    constructor
    ·intro g; exact g 0 (Nat.le_refl _) (by omega)
    ·intro g c h1 h2
     rw[show c=0 from by omega]; exact g
   by_cases g1:(m.bls.getD n (0,0)).1=0
   ·rw[if_pos (hu.2 g1)]
    simp only[g1,bne_self_eq_false,cond_false]
    obtain ⟨q2,e2,e3,h3,k3⟩:=h.at_.sG (b:=n) (by rw[h.bn]; exact hn) 1 s
    have:q2=q:=by rw[e] at e2; cases e2; rfl
    subst this
    refine ⟨_,i,_,by simp only[e3,Option.bind_some],h3, ?_, ?_,k3⟩
    ·rw[h.sim.bl]
     have:(Wh m.bls n (0,0) 1 0).set n (1,s)=m.bls.set n (1,s):=by
      show (m.bls.set (n+0) (0,0)).set n (1,s)=_
      rw[Nat.add_zero,List.set_set]
     rw[this]
     exact h.sim.blocks _ (by simp)
    ·exact hP.blocks _ (by rw[List.length_set,Fu])
   ·rw[if_neg (fun hh=>g1 (hu.1 hh))]
    simp only[bne_iff_ne.2 g1,cond_true]
    exact Hw.RL h hP rfl
theorem WD (k:Nat) (h:RG σ i m t) (hz:FZ m) {b c:Nat} (hbc:b+c≤m.bls.length):∀ (n x f:Nat),x+n=c→n<f→Cu k f (Cg i) (b:Int) (c:Int) ((b+x:Nat):Int) σ=some (match Iv m.bls b n x with | none=>(.exit 0,[],σ) | some _=>(.ret,[.int .i64 8],σ))
 | 0,x,0,hx,hf=>by omega
 | 0,x,f+1,hx,hf=>by
   have hnt:=h.nt
   rw[Jp,Hi]
   have w:Ad ((b:Int)+(c:Int))=((b+c:Nat):Int):=Ac (by unfold AN; omega)
   simp only[w,decide_eq_false (show ¬ ((b+x:Nat):Int)<((b+c:Nat):Int) by omega),cond_false,Iv]
 | n+1,x,0,hx,hf=>by omega
 | n+1,x,f+1,hx,hf=>by
   have hnt:=h.nt
   rw[Jp,Hi,Iv]
   have w:Ad ((b:Int)+(c:Int))=((b+c:Nat):Int):=Ac (by unfold AN; omega)
   have w1:Ad (((b+x:Nat):Int)+1)=((b+(x+1):Nat):Int):=Ac (by unfold AN; omega)
   obtain ⟨q,e,l0,l1,hc⟩:=Yh h (b:=b+x) (by omega)
   have qx:(0≤((b+x:Nat):Int)∧((b+x:Nat):Int)<((m.bls.length:Nat):Int))=True:=eq_true (by omega)
   simp only[w,decide_eq_true (show ((b+x:Nat):Int)<((b+c:Nat):Int) by omega),cond_true,Nat.zero_add,Nat.add_zero,h.at_.SN,h.bn,Option.bind_some,qx,if_true,e,Int.toNat_natCast,l0]
   by_cases g:(m.bls.getD (b+x) (0,0)).1=0
   ·rw[if_pos ⟨g,hz _ g⟩]
    simp only[g,bne_self_eq_false,cond_false,w1]
    exact WD k h hz hbc n (x+1) f (by omega) (by omega)
   ·rw[if_neg (fun hh=>g hh.1)]
    simp only[bne_iff_ne.2 g,cond_true]
theorem WE (k:Nat) {b c:Nat} (s:Int):∀ (n x f:Nat) (σ:Aa) (t:RM),NV σ i t→t.bl.length≤64→b+c≤t.bl.length→x+n=c→n<f →
  ∃ σ',Cv k f (Cg i) (b:Int) (c:Int) s ((b+x:Nat):Int) σ=some (.exit 2,[],σ')∧NV σ' i { t with bl:=Wh t.bl b (3,s) n x }∧Hf i i σ σ'
 | 0,x,0,σ,t,h,hl,hb,hx,hf=>by omega
 | 0,x,f+1,σ,t,h,hl,hb,hx,hf=>by
   rw[Jq,Hj]
   have w:Ad ((b:Int)+(c:Int))=((b+c:Nat):Int):=Ac (by unfold AN; omega)
   exact ⟨σ,by simp only[w,decide_eq_false (show ¬ ((b+x:Nat):Int)<((b+c:Nat):Int) by omega),cond_false],h,Hf.refl _ _⟩
 | n+1,x,0,σ,t,h,hl,hb,hx,hf=>by omega
 | n+1,x,f+1,σ,t,h,hl,hb,hx,hf=>by
   have w:Ad ((b:Int)+(c:Int))=((b+c:Nat):Int):=Ac (by unfold AN; omega)
   have w1:Ad (((b+x:Nat):Int)+1)=((b+(x+1):Nat):Int):=Ac (by unfold AN; omega)
   obtain ⟨q,e,e3,h3,k3⟩:=h.sG (b:=b+x) (by omega) 3 s
   obtain ⟨σ',e4,h4,k4⟩:=WE k s n (x+1) f _ _ h3 (by show (t.bl.set _ _).length≤64; rw[List.length_set]; exact hl) (by show _≤(t.bl.set _ _).length; rw[List.length_set]; exact hb) (by omega) (by omega)
   refine ⟨σ', ?_,h4,k3.trans k4⟩
   rw[Jq,Hj]
   have qx:(0≤((b+x:Nat):Int)∧((b+x:Nat):Int)<((t.bl.length:Nat):Int))=True:=eq_true (by omega)
   simp only[w,decide_eq_true (show ((b+x:Nat):Int)<((b+c:Nat):Int) by omega),cond_true,Nat.zero_add,Nat.add_zero,h.SN,Option.bind_some,qx,if_true,e,Int.toNat_natCast,e3,w1]
   exact e4
theorem cC (k:Nat) (hk:100≤k) (h:RG σ i m t) (hP:Oo m) (hz:FZ m) (b c s:Int) (hb:AN b) (hc:AN c):Hw (Ej (k+2) (Cg i) b c s σ) σ i (.int .i64 (Bs m b c 2 s 3 s).1) (Bs m b c 2 s 3 s).2:=by
 have hnt:=h.nt
 have hbn:=h.bn
 rw[QE,MR]
 simp only[I9 k h,VV k h b,Zf k s,Option.bind_some,Au,Bool.not_true,cond_false]
 unfold Bs
 by_cases g0:1≤b∧b<(m.bls.length:Int)
 rotate_left
 ·rw[if_neg (fun hh=>g0 ⟨hh.1,hh.2.1⟩),decide_eq_false g0]
  exact Hw.RL h hP (by simp only[Bool.not_false,cond_true,Option.bind_some])
 obtain ⟨n,rfl⟩:∃ n:Nat,b=(n:Int):=⟨b.toNat,by omega⟩
 have hn:n<m.bls.length:=by omega
 have wd:Ad (((m.bls.length:Nat):Int)-(n:Int))=((m.bls.length-n:Nat):Int):=by rw[Ac (by unfold AN; omega)]; omega
 rw[decide_eq_true g0]
 simp only[Bool.not_true,cond_false,Option.bind_some]
 by_cases g1:c<1
 ·rw[if_neg (fun hh=>by have:=hh.2.2.1; omega)]
  exact Hw.RL h hP (by simp only[decide_eq_true g1,cond_true,Option.bind_some])
 simp only[decide_eq_false g1,cond_false,Option.bind_some,Nat.zero_add,Nat.add_zero,h.at_.SN,h.bn,wd]
 by_cases g2:c>((m.bls.length-n:Nat):Int)
 ·rw[if_neg (fun hh=>by have:=hh.2.2.2.1; omega)]
  exact Hw.RL h hP (by simp only[decide_eq_true g2,cond_true,Option.bind_some])
 simp only[decide_eq_false g2,cond_false,Option.bind_some]
 cases hs:UD s with
 | false=>
   rw[if_neg (fun hh=>by have:=hh.2.2.2.2; cases this)]
   exact Hw.RL h hP (by simp only[Bool.not_false,cond_true])
 | true=>
   rw[if_pos ⟨g0.1,g0.2,by omega,by omega,rfl⟩]
   obtain ⟨w,rfl⟩:∃ w:Nat,c=(w:Int):=⟨c.toNat,by omega⟩
   have hw:n+w≤m.bls.length:=by omega
   have e0:Cu (k+1) (k+1) (Cg i) (n:Int) (w:Int) (n:Int) σ=_:=WD (k+1) h hz hw w 0 (k+1) (by omega) (by omega)
   simp only[Bool.not_true,cond_false,e0,Option.bind_some,Int.toNat_natCast]
   cases g3:Iv m.bls n w 0 with
   | none=>
     simp only[if_true]
     obtain ⟨σ1,e1,h1,k1⟩:=WE (i:=i) (k+1) (b:=n) (c:=w) s w 0 (k+1) σ t h.at_ (by rw[hbn]; exact hnt) (by rw[hbn]; exact hw) (by omega) (by omega)
     have e1':Cv (k+1) (k+1) (Cg i) (n:Int) (w:Int) s (n:Int) σ=_:=e1
     have hcl:(Wh t.bl n (3,s) w 0).length=m.bls.length:=by rw[Fu,hbn]
     obtain ⟨q,e2,e3,h3,k3⟩:=h1.uy (b:=n) (by show n<(Wh t.bl n (3,s) w 0).length; omega) 2
     have hg:((Wh t.bl n (3,s) w 0).getD n (0,0)).2=s:=by
      rw[XC n (3,s) w 0 t.bl n (by omega),if_pos (by omega)]
     have e3':AX.G7 σ1 q (n*2) (.int .i64 2)=some (σ1.set q (.cells (CG ((Wh t.bl n (3,s) w 0).set n (2,((Wh t.bl n (3,s) w 0).getD n (0,0)).2))) AA true)):=e3
     have h3':NV (σ1.set q (.cells (CG ((Wh t.bl n (3,s) w 0).set n (2,((Wh t.bl n (3,s) w 0).getD n (0,0)).2))) AA true)) i { t with bl:=(Wh t.bl n (3,s) w 0).set n (2,((Wh t.bl n (3,s) w 0).getD n (0,0)).2) }:=h3
     have ld:Ep σ1 i.hb 0=some (i.bs.1,(Wh t.bl n (3,s) w 0).length,(Wh t.bl n (3,s) w 0).length):=h1.SN
     rw[hg] at e3' h3'
     have qx:(0≤(n:Int)∧(n:Int)<((m.bls.length:Nat):Int))=True:=eq_true (by omega)
     refine ⟨σ1.set q (.cells (CG ((Wh t.bl n (3,s) w 0).set n (2,s))) AA true),i,{ t with bl:=(Wh m.bls n (3,s) w 0).set n (2,s) }, ?_, ?_, ?_, ?_⟩
     ·simp only[if_true,e1',Option.bind_some,ld,hcl,qx,if_true,e2,Int.toNat_natCast,Nat.zero_add,e3']
     ·rw[← h.sim.bl]; exact h3'
     ·exact h.sim.blocks _ (by rw[List.length_set,Fu])
     ·exact ⟨hP.blocks _ (by rw[List.length_set,Fu]),k1.trans (Hf.set _ _ (RI.Ku.2 (.inr (.inl (XP e2)))))⟩
   | some x0=>
     simp only[reduceCtorEq,if_false,if_true,Ds]
     exact Hw.RL h hP rfl
theorem VC (k:Nat) {b c:Nat}:∀ (n x f:Nat) (σ:Aa) (t:RM),NV σ i t→t.bl.length≤64→b+c≤t.bl.length→x+n=c→n<f →
  ∃ σ',Dk k f (Cg i) (b:Int) (c:Int) ((b+x:Nat):Int) σ=some (.exit 0,[],σ')∧NV σ' i { t with bl:=Wh t.bl b (0,0) n x }∧Hf i i σ σ'
 | 0,x,0,σ,t,h,hl,hb,hx,hf=>by omega
 | 0,x,f+1,σ,t,h,hl,hb,hx,hf=>by
   rw[KP,IP]
   have w:Ad ((b:Int)+(c:Int))=((b+c:Nat):Int):=Ac (by unfold AN; omega)
   exact ⟨σ,by simp only[w,decide_eq_false (show ¬ ((b+x:Nat):Int)<((b+c:Nat):Int) by omega),cond_false],h,Hf.refl _ _⟩
 | n+1,x,0,σ,t,h,hl,hb,hx,hf=>by omega
 | n+1,x,f+1,σ,t,h,hl,hb,hx,hf=>by
   have w:Ad ((b:Int)+(c:Int))=((b+c:Nat):Int):=Ac (by unfold AN; omega)
   have w1:Ad (((b+x:Nat):Int)+1)=((b+(x+1):Nat):Int):=Ac (by unfold AN; omega)
   obtain ⟨q,e,e3,h3,k3⟩:=h.sG (b:=b+x) (by omega) 0 0
   obtain ⟨σ',e4,h4,k4⟩:=VC k n (x+1) f _ _ h3 (by show (t.bl.set _ _).length≤64; rw[List.length_set]; exact hl) (by show _≤(t.bl.set _ _).length; rw[List.length_set]; exact hb) (by omega) (by omega)
   refine ⟨σ', ?_,h4,k3.trans k4⟩
   rw[KP,IP]
   have qx:(0≤((b+x:Nat):Int)∧((b+x:Nat):Int)<((t.bl.length:Nat):Int))=True:=eq_true (by omega)
   simp only[w,decide_eq_true (show ((b+x:Nat):Int)<((b+c:Nat):Int) by omega),cond_true,Nat.zero_add,Nat.add_zero,h.SN,Option.bind_some,qx,if_true,e,Int.toNat_natCast,e3,w1]
   exact e4
theorem Yf (k:Nat) {b c:Nat} (y:Int):∀ (n x f:Nat) (σ:Aa) (t:RM),NV σ i t→t.bl.length≤64→b+c≤t.bl.length→x+n=c→n<f →
  ∃ σ',DV k f (Cg i) (b:Int) y (c:Int) ((b+x:Nat):Int) σ=some (.exit 0,[],σ')∧NV σ' i { t with bl:=jN t.bl b y n x }∧Hf i i σ σ'
 | 0,x,0,σ,t,h,hl,hb,hx,hf=>by omega
 | 0,x,f+1,σ,t,h,hl,hb,hx,hf=>by
   rw[LZ,Ke]
   have w:Ad ((b:Int)+(c:Int))=((b+c:Nat):Int):=Ac (by unfold AN; omega)
   exact ⟨σ,by simp only[w,decide_eq_false (show ¬ ((b+x:Nat):Int)<((b+c:Nat):Int) by omega),cond_false],h,Hf.refl _ _⟩
 | n+1,x,0,σ,t,h,hl,hb,hx,hf=>by omega
 | n+1,x,f+1,σ,t,h,hl,hb,hx,hf=>by
   have w:Ad ((b:Int)+(c:Int))=((b+c:Nat):Int):=Ac (by unfold AN; omega)
   have w1:Ad (((b+x:Nat):Int)+1)=((b+(x+1):Nat):Int):=Ac (by unfold AN; omega)
   obtain ⟨q,e,e3,h3,k3⟩:=h.tZ (b:=b+x) (by omega) y
   obtain ⟨σ',e4,h4,k4⟩:=Yf k y n (x+1) f _ _ h3 (by show (t.bl.set _ _).length≤64; rw[List.length_set]; exact hl) (by show _≤(t.bl.set _ _).length; rw[List.length_set]; exact hb) (by omega) (by omega)
   refine ⟨σ', ?_,h4,k3.trans k4⟩
   rw[LZ,Ke]
   have qx:(0≤((b+x:Nat):Int)∧((b+x:Nat):Int)<((t.bl.length:Nat):Int))=True:=eq_true (by omega)
   simp only[w,decide_eq_true (show ((b+x:Nat):Int)<((b+c:Nat):Int) by omega),cond_true,Nat.zero_add,Nat.add_zero,h.SN,Option.bind_some,qx,if_true,e,Int.toNat_natCast,e3,w1]
   exact e4
theorem di {n:Nat} (h:(m.bls.getD n (0,0)).1=1∨(m.bls.getD n (0,0)).1=2) (hn:n<m.bls.length):Sn m n=Eg m n∧1≤Eg m n:=by
 have key:∀ f x,1≤x→1≤EO m n f x:=by
  intro f
  induction f with
  | zero=>intro x hx; exact hx
  | succ f ih=>
    intro x hx
    rw[EO]
    split
    ·exact ih (x+1) (by omega)
    ·exact hx
 refine ⟨?_,key _ _ (Nat.le_refl _)⟩
 unfold Sn
 by_cases h1:(m.bls.getD n (0,0)).1=1
 ·rw[if_pos h1]
  unfold Eg
  cases hl:m.bls.length with
  | zero=>rfl
  | succ f=>rw[EO,if_neg (fun hh=>by rw[h1] at hh; exact absurd hh.1 (by decide))]
 ·rw[if_neg h1,if_pos (by omega)]
theorem jo (k:Nat) (hk:5000≤k) (h:RG σ i m t) (hP:Oo m) (b:Int):Hw (Eu (k+3) (Cg i) b σ) σ i (.int .i64 (GM m b).1) (GM m b).2:=by
 have hnt:=h.nt
 have hbn:=h.bn
 rw[SE,Pa]
 simp only[I9 (k+1) h,VV (k+1) h b,Option.bind_some,Au,Bool.not_true,cond_false]
 unfold GM Ok
 by_cases g0:1≤b∧b<(m.bls.length:Int)
 rotate_left
 ·have q:(¬(1≤b∧b<(m.bls.length:Int))∨true=false)=True:=eq_true (.inl g0)
  rw[decide_eq_false g0]
  simp only[q,if_true,show ((1:Int)=0)=False from by decide,if_false]
  exact Hw.RL h hP (by simp only[Bool.not_false,cond_true])
 have q:(¬(1≤b∧b<(m.bls.length:Int))∨true=false)=False:=eq_false (by simp; omega)
 simp only[q,if_false]
 obtain ⟨n,rfl⟩:∃ n:Nat,b=(n:Int):=⟨b.toNat,by omega⟩
 have hn:n<m.bls.length:=by omega
 have eW:Cd (k+2) (Cg i) (n:Int) σ=_:=Zb (k+1) (by omega) h hn
 rw[decide_eq_true g0]
 simp only[Bool.not_true,cond_false,eW,Option.bind_some,Am,Int.toNat_natCast]
 by_cases g1:(m.bls.getD n (0,0)).1≠1∧(m.bls.getD n (0,0)).1≠2
 ·have:Sn m n=0:=by unfold Sn; rw[if_neg g1.1,if_neg g1.2]
  rw[this]
  simp only[g1,ne_eq,not_false_eq_true,and_self,if_true,show ((5:Int)=0)=False from by decide,if_false]
  exact Hw.RL h hP rfl
 obtain ⟨p1,p2⟩:=di (n:=n) (by omega) hn
 have hsp:=Rd hn
 rw[p1]
 have qn:(((Eg m n:Nat):Int) == 0)=false:=beq_eq_false_iff_ne.2 (by omega)
 obtain ⟨τ,s,eO,iO⟩:=ZG k hk h (n:Int)
 have eobj:ct m (n:Int)=Ck m (32*n) 32:=by unfold ct; rw[if_pos (by omega),Int.toNat_natCast]
 rw[eobj] at iO
 have sl:s.2.1=(Ck m (32*n) 32).length:=by
  rw[← show (DE (Ck m (32*n) 32)).length=(Ck m (32*n) 32).length from by simp[DE]]; exact iO.sl.len
 simp only[g1,qn,cond_false,eO,Option.bind_some,Hs,sl,if_false,if_true]
 by_cases g2:Ck m (32*n) 32=[]
 ·rw[if_pos g2,g2]
  obtain ⟨σ1,e1,h1,k1⟩:=VC (i:=i) (k+2) (b:=n) (c:=Eg m n) (Eg m n) 0 (k+2) (σ++τ) t (h.at_.app τ) (by omega) (by omega) (by omega) (by omega)
  have e1':Dk (k+2) (k+2) (Cg i) (n:Int) ((Eg m n:Nat):Int) (n:Int) (σ++τ)=_:=e1
  refine ⟨σ1,i,_,by simp only[List.length_nil,show decide ((((0:Nat):Int))>0)=false from rfl,cond_false,e1',Option.bind_some,if_true],h1, ?_, ?_,(Hf.app i σ τ).trans k1⟩
  ·rw[qC (by omega),h.sim.bl]
   exact h.sim.blocks _ (Py _ _ _)
  ·exact hP.blocks _ (Py _ _ _)
 ·rw[if_neg g2]
  have:0<(Ck m (32*n) 32).length:=List.length_pos_iff.2 g2
  simp only[decide_eq_true (show (((Ck m (32*n) 32).length:Nat):Int)>0 by omega),cond_true]
  exact Hw.same h hP τ rfl
theorem nO (k:Nat) (hk:5000≤k) (h:RG σ i m t) (hP:Oo m) (b y:Int):Hw (ER (k+3) (Cg i) b y σ) σ i (.int .i64 (LK m b y).1) (LK m b y).2:=by
 have hnt:=h.nt
 have hbn:=h.bn
 rw[U3,Q2]
 simp only[I9 (k+1) h,VV (k+1) h b,Zf (k+1) y,Option.bind_some,Au,Bool.not_true,cond_false]
 unfold LK Ok
 by_cases g0:1≤b∧b<(m.bls.length:Int)
 rotate_left
 ·have q:(¬(1≤b∧b<(m.bls.length:Int))∨UD y=false)=True:=eq_true (.inl g0)
  rw[decide_eq_false g0]
  simp only[q,if_true,show ((1:Int)=0)=False from by decide,if_false]
  exact Hw.RL h hP (by simp only[Bool.not_false,cond_true,Option.bind_some])
 rw[decide_eq_true g0]
 cases hs:UD y with
 | false=>
   simp only[Bool.not_true,cond_false,Option.bind_some,or_true,if_true,show ((1:Int)=0)=False from by decide,if_false]
   exact Hw.RL h hP (by simp only[Bool.not_false,cond_true])
 | true=>
 have q:(¬(1≤b∧b<(m.bls.length:Int))∨true=false)=False:=eq_false (by simp; omega)
 simp only[q,if_false]
 obtain ⟨n,rfl⟩:∃ n:Nat,b=(n:Int):=⟨b.toNat,by omega⟩
 have hn:n<m.bls.length:=by omega
 have eW:Cd (k+2) (Cg i) (n:Int) σ=_:=Zb (k+1) (by omega) h hn
 simp only[Bool.not_true,cond_false,eW,Option.bind_some,Am,Int.toNat_natCast]
 by_cases g1:(m.bls.getD n (0,0)).1≠1∧(m.bls.getD n (0,0)).1≠2
 ·have:Sn m n=0:=by unfold Sn; rw[if_neg g1.1,if_neg g1.2]
  rw[this]
  simp only[g1,ne_eq,not_false_eq_true,and_self,if_true,show ((5:Int)=0)=False from by decide,if_false]
  exact Hw.RL h hP rfl
 obtain ⟨p1,p2⟩:=di (n:=n) (by omega) hn
 have hsp:=Rd hn
 rw[p1]
 have qn:(((Eg m n:Nat):Int) == 0)=false:=beq_eq_false_iff_ne.2 (by omega)
 obtain ⟨σ1,e1,h1,k1⟩:=Yf (i:=i) (k+2) (b:=n) (c:=Eg m n) y (Eg m n) 0 (k+2) σ t h.at_ (by omega) (by omega) (by omega) (by omega)
 have e1':DV (k+2) (k+2) (Cg i) (n:Int) y ((Eg m n:Nat):Int) (n:Int) σ=_:=e1
 simp only[g1,qn,cond_false,e1',Option.bind_some,if_false,if_true]
 refine ⟨σ1,i,_,rfl,h1, ?_, ?_,k1⟩
 ·rw[pZ (by omega),h.sim.bl]
  exact h.sim.blocks _ (P1 _ _ _ _)
 ·exact hP.blocks _ (P1 _ _ _ _)
end Go.Proofs.YtlaplcglpnlieaaGreat
end
section
namespace Go.Proofs.YtlaplcglpnlieaaGreat
open Go Go.AX
noncomputable local instance wL:AK:=As
local instance vt:Kn:=⟨true⟩
variable {σ:Aa} {m:HM} {t:RM} {i:RI}
theorem bq {ρ:Type} {x:Option Value} {d top v:Nat} (h:x=some (.int .i64 (v:Int))∨(x=none∧d=v)) (hv:v≤top) (K:Nat→Option ρ):bound x d top K=K v:=by
 rcases h with rfl | ⟨rfl,rfl⟩
 ·show (if 0≤(v:Int)∧(v:Int)≤(top:Int) then K (v:Int).toNat else none)=K v
  rw[if_pos (by omega),Int.toNat_natCast]
 ·rfl
theorem lE {E:TypeId} {s:Nat} {sl0:En} {n0:Nat} {row0:List Value} (h0:Cj E s σ sl0 n0 row0) (lo hi:Nat) (hlh:lo≤hi) (hh:hi≤n0) (L H:Option Value) (hL:L=some (.int .i64 (lo:Int))∨(L=none∧0=lo)) (hH:H=some (.int .i64 (hi:Int))∨(H=none∧n0=hi)):
  ∃ src c,Lg E s (sl0.1,n0,n0) L H none σ=some (src,hi-lo,c)∧Gy σ s src (hi-lo)=some ((row0.drop (lo*s)).take ((hi-lo)*s)):=by
 unfold Lg
 simp only[Option.isSome_none,Bool.not_false,Bool.true_or,cond_true]
 rw[bq (v:=n0) (.inr ⟨rfl,rfl⟩) (Nat.le_refl _),bq hH hh,bq hL hlh]
 rcases h0 with ⟨rfl,rfl,rfl⟩ | ⟨b,rfl,_,hl,hcell⟩
 ·have e1:hi=0:=by omega
  have e2:lo=0:=by omega
  subst e1; subst e2
  exact ⟨none,0,by simp,by simp[Gy]⟩
 ·have e1:elemAt σ b=some E:=by simp only[elemAt,hcell]
  have ld:∀ o n,o+n≤row0.length→TC σ b o n=some ((row0.drop o).take n):=fun o n h=>by simp only[TC,hcell]; rw[if_pos h]
  by_cases e:n0=lo
  ·have e2:hi-lo=0:=by omega
   refine ⟨some ⟨b,0,none⟩,0, ?_, ?_⟩
   ·rw[if_pos e,e2]
    simp only[cond_false,e1,if_true]
   ·rw[e2,Nat.zero_mul]
    simp only[Gy,Nat.zero_mul]
    rw[ld 0 0 (by omega)]; rfl
  ·refine ⟨some ⟨b,0+lo*s,none⟩,n0-lo, ?_, ?_⟩
   ·rw[if_neg e]
    simp only[Option.bind_some,e1,if_true]
   ·simp only[Gy,Nat.zero_add]
    refine ld _ _ ?_
    rw[hl,← Nat.add_mul]
    exact Nat.mul_le_mul_right _ (by omega)
theorem ri {b o:Nat} {cs:List Value} {T:TypeId} (h:σ[b]?=some (.cells cs T true)) (ho:o≤cs.length):JM σ b o []=some σ:=by
 simp only[JM,h,List.length_nil,Nat.add_zero,ho,if_true,AE,List.append_nil,List.take_append_drop]
 rw[Ta h]
theorem UY {E:TypeId} {s by_:Nat} {z:Value} (hs:Jk P E=some s) (hb:bytesOf P E=some by_) (hz:GU P E=some z) (hz1:Jd z=false) (hz2:z.cells.size=s) (hs0:0<s)
  (σ:Aa) (sl:En) (n:Nat) (row:List Value) (src:Option Addr) (c:Nat) (hsl:Cj E s σ sl n row) (hx:Gy σ s src 0=some []):
  Bo P E sl (src,0,c) σ=some (sl,σ):=by
 unfold Bo Tk
 simp only[hs,hb,hz,Option.bind_some,hx]
 have h1:(¬ (Jd z=false∧some s=some z.cells.size∧0<z.cells.size))=False:=by
  rw[hz1,hz2]; simp[hs0]
 simp only[h1,if_false]
 rcases hsl with ⟨rfl,rfl,rfl⟩ | ⟨b,rfl,hp,hl,hcell⟩
 ·simp only[Nat.add_zero,Nat.le_refl,if_true,KV,cond_true,qk]
 ·simp only[Nat.add_zero,Nat.le_refl,if_true,KV,Option.isSome_none,cond_false,Option.bind_some,Nat.zero_add]
  rw[ri hcell (by omega)]
  simp only[Option.bind_some,qk]
theorem Rs {E:TypeId} {s by_:Nat} {z:Value} (hs:Jk P E=some s) (hb:bytesOf P E=some by_) (hz:GU P E=some z) (hz1:Jd z=false) (hz2:z.cells.size=s) (hs0:0<s) (hb0:0<by_) (hb1:by_≤1000)
  (σ τ:Aa) (sl:En) (n:Nat) (row:List Value) (hsl:Cj E s (σ++τ) sl n row) (hbh:∀ a,sl.1=some a→σ.length≤a.block) {sl0:En} {n0:Nat} {row0:List Value} (h0:Cj E s (σ++τ) sl0 n0 row0) (lo hi:Nat) (hlh:lo≤hi) (hh:hi≤n0) (hn:n+n0≤1000000)
  (L H:Option Value) (hL:L=some (.int .i64 (lo:Int))∨(L=none∧0=lo)) (hH:H=some (.int .i64 (hi:Int))∨(H=none∧n0=hi)):
  ∃ src,Lg E s (sl0.1,n0,n0) L H none (σ++τ)=some src ∧ ∃ s' τ',Bo P E sl (src.1,src.2.1,src.2.2) (σ++τ)=some (s',σ++τ')∧Cj E s (σ++τ') s' (n+(hi-lo)) (row++(row0.drop (lo*s)).take ((hi-lo)*s))∧(∀ a,s'.1=some a→σ.length≤a.block):=by
 obtain ⟨src,c,e1,e2⟩:=lE h0 lo hi hlh hh L H hL hH
 refine ⟨_,e1, ?_⟩
 have hlen:((row0.drop (lo*s)).take ((hi-lo)*s)).length=(hi-lo)*s:=by
  have hr:row0.length=n0*s:=by
   rcases h0 with ⟨rfl,rfl,rfl⟩ | ⟨b,rfl,_,hl,_⟩
   ·simp
   ·exact hl
  rw[List.length_take,List.length_drop,hr,← Nat.sub_mul]
  exact Nat.min_eq_left (Nat.mul_le_mul_right _ (by omega))
 by_cases hz0:hi-lo=0
 ·rw[hz0,Nat.zero_mul,List.take_zero] at e2
  refine ⟨sl,τ, ?_, ?_,hbh⟩
  ·simp only[hz0]
   exact UY hs hb hz hz1 hz2 hs0 _ sl n row src c hsl e2
  ·rw[hz0,Nat.zero_mul,List.take_zero,List.append_nil]; exact hsl
 ·obtain ⟨s',σ',e,g,h⟩:=Tl hs hb hz hz1 hz2 hs0 hb0 hb1 (σ++τ) sl n row src (hi-lo) c _ (by omega) (by omega) hlen hsl e2
  obtain ⟨⟨τ',rfl⟩,h2⟩:=g.behind hbh
  exact ⟨s',τ',e,h,h2⟩
theorem tx:Jk P Ak=some 8:=by kernel_rfl
theorem sY:bytesOf P Ak=some 96:=by kernel_rfl
theorem tE:GU P Ak=some (.agg #[.int .i64 0,.int .i64 0,.int .i64 0,.int .i64 0,.int .i64 0,.slice none 0 0,.slice none 0 0,.bool false]):=by kernel_rfl
theorem VP:∀ (l l':List RO) (om om':List (En × En)),om.length=l.length→HY (l++l') (om++om')=HY l om++HY l' om'
 | [],l',[],om',h=>rfl
 | [],l',p::om,om',h=>by simp at h
 | o::l,l',[],om',h=>by simp at h
 | o::l,l',p::om,om',h=>by
   simp only[List.cons_append,HY,VP l l' om om' (by simpa using h),List.append_assoc]
theorem RD (l:List RO) (om:List (En × En)) (h:om.length=l.length) (a:Nat) (ha:a≤l.length):(HY l om).take (a*8)=HY (l.take a) (om.take a)∧(HY l om).drop (a*8)=HY (l.drop a) (om.drop a):=by
 have e:HY l om=HY (l.take a) (om.take a)++HY (l.drop a) (om.drop a):=by
  rw[← VP _ _ _ _ (by simp; omega),List.take_append_drop,List.take_append_drop]
 have hl:(HY (l.take a) (om.take a)).length=a*8:=by rw[VQ _ _ (by simp; omega),List.length_take,Nat.min_eq_left ha]
 rw[e]
 constructor
 ·rw[← hl,List.take_left]
 ·rw[← hl,List.drop_left]
theorem XV (a b:List (En × En)):Xw (a++b)=Xw a++Xw b:=by unfold Xw; rw[List.flatMap_append]
theorem XW (p:En × En) (b:List (En × En)):Xw (p::b)=(hs p.1++hs p.2)++Xw b:=rfl
theorem Qp (om:List (En × En)) (x:Nat):Xw om=Xw (om.take x)++Xw (om.drop x):=by rw[← XV,List.take_append_drop]
theorem eR {lo:Nat} {s:En} (h:∀ a,s.1=some a→lo≤a.block) {j:Nat} (hj:j ∈ hs s):lo≤j:=by
 obtain ⟨a,ha,rfl⟩:=Kj.1 hj
 exact h a ha
theorem qV (k:Nat) (h:NV σ i t) (hn:t.ob.length≤5000) {x:Nat} (hx:x<t.ob.length):∃ σ' os',IZ (k+1) (Cg i) (x:Int) σ=some (.tuple #[],σ')∧NV σ' { i with os:=os',om:=i.om.eraseIdx x } { t with ob:=t.ob.eraseIdx x }∧Hf i { i with os:=os',om:=i.om.eraseIdx x } σ σ'∧(∀ a,os'.1=some a→σ.length≤a.block)∧(∀ j,j<σ.length→j≠i.hb→σ'[j]?=σ[j]?):=by
 have sep:=h.sep
 have hol:=h.ol
 have h0:Cj Ak 8 (σ++[]) i.os t.ob.length (HY t.ob i.om):=by rw[List.append_nil]; exact h.ob
 obtain ⟨src1,e1,s1,τ1,a1,sl1,b1⟩:=Rs tx sY tE rfl rfl (by decide) (by decide) (by decide) σ [] (none,0,0) 0 [] (Cj.nil _ _ _) (by intro a ha; cases ha) h0 0 x (by omega) (by omega) (by omega) none (some (.int .i64 (x:Int))) (.inr ⟨rfl,rfl⟩) (.inl rfl)
 rw[Nat.zero_mul,List.drop_zero,Nat.sub_zero,List.nil_append,Nat.zero_add,(RD t.ob i.om hol x (by omega)).1] at sl1
 rw[List.append_nil] at e1 a1
 have hg:=h.app τ1
 obtain ⟨src2,e2,s2,τ2,a2,sl2,b2⟩:=Rs tx sY tE rfl rfl (by decide) (by decide) (by decide) σ τ1 s1 x _ sl1 b1 hg.ob (x+1) t.ob.length (by omega) (Nat.le_refl _) (by omega) (some (.int .i64 ((x+1:Nat):Int))) none (.inl rfl) (.inr ⟨rfl,rfl⟩)
 rw[(RD t.ob i.om hol (x+1) (by omega)).2,List.take_of_length_le (l:=HY (t.ob.drop (x+1)) (i.om.drop (x+1))) (by rw[VQ _ _ (by simp; omega),List.length_drop]; exact Nat.le_refl _),← VP _ _ _ _ (by simp; omega)] at sl2
 rw[← List.eraseIdx_eq_take_drop_succ,← List.eraseIdx_eq_take_drop_succ,show x+(t.ob.length-(x+1))=(t.ob.eraseIdx x).length from by rw[List.length_eraseIdx_of_lt hx]; omega] at sl2
 have hg2:=h.app τ2
 have hsub:∀ j ∈ Xw (i.om.eraseIdx x),j ∈ Xw i.om:=by
  intro j hj
  rw[List.eraseIdx_eq_take_drop_succ,XV] at hj
  rw[Qp i.om x,List.drop_eq_getElem_cons (by omega),XW]
  rcases List.mem_append.1 hj with hj | hj
  ·exact List.mem_append.2 (.inl hj)
  ·exact List.mem_append.2 (.inr (List.mem_append.2 (.inr hj)))
 have hnd:(Xw (i.om.eraseIdx x)).Nodup:=by
  have:=sep.D
  rw[Qp i.om x,List.drop_eq_getElem_cons (by omega),XW] at this
  rw[List.eraseIdx_eq_take_drop_succ,XV]
  exact this.sublist (List.Sublist.append (List.Sublist.refl _) (List.sublist_append_right _ _))
 have hlt:=h.lt
 have hin:∀ {j},j ∈ i.l→j<σ.length:=fun hj=>hlt _ hj
 have hB:∀ j ∈ hs s2,σ.length≤j:=fun j hj=>eR b2 hj
 have mA:∀ j ∈ hs i.bs,j<σ.length:=fun j hj=>hin (RI.Ku.2 (.inr (.inl hj)))
 have mC:∀ j ∈ hs i.fs,j<σ.length:=fun j hj=>hin (RI.Ku.2 (.inr (.inr (.inr (.inl hj)))))
 have mD:∀ j ∈ Xw i.om,j<σ.length:=fun j hj=>hin (RI.Ku.2 (.inr (.inr (.inr (.inr hj)))))
 have mh:=hin i.RY
 have sep':Sep { i with os:=s2,om:=i.om.eraseIdx x }:=
  { hA:=sep.hA,hB:=fun hh=>Nat.not_lt.2 (hB _ hh) mh,hC:=sep.hC,hD:=fun hh=>sep.hD (hsub _ hh),
    AB:=fun a ha hh=>by have:=hB _ hh; have:=mA _ ha; omega,AC:=sep.AC,AD:=fun a ha hh=>sep.AD a ha (hsub _ hh),
    BC:=fun a ha hh=>by have:=hB _ ha; have:=mC _ hh; omega,BD:=fun a ha hh=>by have:=hB _ ha; have:=mD _ (hsub _ hh); omega,CD:=fun a ha hh=>sep.CD a ha (hsub _ hh),D:=hnd }
 have hlt2:∀ j ∈ RI.l { i with os:=s2,om:=i.om.eraseIdx x },j<(σ++τ2).length:=by
  intro j hj
  rcases RI.Ku.1 hj with hj | hj | hj | hj | hj
  ·have hj':j=i.hb:=hj
   rw[hj',List.length_append]; omega
  ·have:=mA _ hj; simp; omega
  ·obtain ⟨a,ha,rfl⟩:=Kj.1 hj; exact sl2.lt a ha
  ·have:=mC _ hj; simp; omega
  ·have:=mD _ (hsub _ hj); simp; omega
 have hinn:∀ (y:Nat) (h1:y<(t.ob.eraseIdx x).length) (h2:y<(i.om.eraseIdx x).length),Lr (σ++τ2) (i.om.eraseIdx x)[y].1 (t.ob.eraseIdx x)[y].refs∧Lr (σ++τ2) (i.om.eraseIdx x)[y].2 (t.ob.eraseIdx x)[y].data:=by
  intro y h1 h2
  rw[List.getElem_eraseIdx,List.getElem_eraseIdx]
  split
  ·exact hg2.inn y (by omega) (by omega)
  ·have hl:=List.length_eraseIdx_of_lt hx
   exact hg2.inn (y+1) (by omega) (by omega)
 have hR:=NV.p9 (i:={ i with os:=s2,om:=i.om.eraseIdx x }) (t:={ t with ob:=t.ob.eraseIdx x }) hg2.bl sl2 hg2.fw (by show (i.om.eraseIdx x).length=(t.ob.eraseIdx x).length; rw[List.length_eraseIdx_of_lt hx,List.length_eraseIdx_of_lt (by omega),hol]) hinn sep' hlt2
 refine ⟨_,s2, ?_,hR,⟨by simp,fun j hj hn=>?_,fun j hj=>?_,rfl⟩,b2,fun j hj hne=>?_⟩
 ·rw[Wk,Sz]
  have w:Ad ((x:Int)+1)=((x+1:Nat):Int):=Ac (by unfold AN; omega)
  have est:AX.G7 (σ++τ2) i.hb 1 (.slice s2.1 s2.2.1 s2.2.2)=some ((σ++τ2).set i.hb (.cells [.slice i.bs.1 i.bs.2.1 i.bs.2.2,.slice s2.1 s2.2.1 s2.2.2,.slice i.fs.1 i.fs.2.1 i.fs.2.2,.int .i64 t.born] EJ true)):=by
   simp[AX.G7,hg2.hp]
  simp only[Option.bind_some,Nat.zero_add,h.Mm,e1,a1,hg.Mm,w,e2,a2,est]
 ·have:i.hb≠j:=fun e=>hn (by rw[← e]; exact i.RY)
  rw[List.getElem?_set_ne this,List.getElem?_append_left hj]
 ·rcases RI.Ku.1 hj with hj | hj | hj | hj | hj
  ·exact .inl (by rw[hj]; exact i.RY)
  ·exact .inl (RI.Ku.2 (.inr (.inl hj)))
  ·exact .inr (hB _ hj)
  ·exact .inl (RI.Ku.2 (.inr (.inr (.inr (.inl hj)))))
  ·exact .inl (RI.Ku.2 (.inr (.inr (.inr (.inr (hsub _ hj))))))
 ·rw[List.getElem?_set_ne (Ne.symm hne),List.getElem?_append_left hj]
theorem cI (k:Nat) (h:NV σ i t) (hn:t.ob.length≤5000) {q:Nat} {a:Int} (hq:Ai .i64 σ q 0=some a):∀ (n x f:Nat),x+n=t.ob.length→n<f→EB k f (Cg i) q (x:Int) σ=some (.exit 0,[.int .i64 ((x+TI (t.ob.drop x) a:Nat):Int)],σ)
 | 0,x,0,hx,hf=>by omega
 | 0,x,f+1,hx,hf=>by
   rw[NG,LF,List.drop_eq_nil_of_le (by omega)]
   simp only[Option.bind_some,Nat.zero_add,h.Mm,decide_eq_false (show ¬ (x:Int)<((t.ob.length:Nat):Int) by omega),cond_false,TI,Nat.add_zero]
 | n+1,x,0,hx,hf=>by omega
 | n+1,x,f+1,hx,hf=>by
   have hxl:x<t.ob.length:=by omega
   obtain ⟨b,e,hc,L⟩:=h.obj hxl
   have L:=L (by rw[h.ol]; exact hxl)
   have qx:(0≤(x:Int)∧(x:Int)<((t.ob.length:Nat):Int))=True:=eq_true (by omega)
   have w1:Ad ((x:Int)+1)=((x+1:Nat):Int):=Ac (by unfold AN; omega)
   rw[NG,LF,List.drop_eq_getElem_cons hxl,TI]
   simp only[Option.bind_some,Nat.zero_add,Nat.add_zero,h.Mm,decide_eq_true (show (x:Int)<((t.ob.length:Nat):Int) by omega),cond_true,qx,if_true,e,Int.toNat_natCast,L.l0,hq]
   by_cases g:t.ob[x].addr<a
   ·rw[decide_eq_true g,if_pos g]
    simp only[cond_true,w1]
    rw[cI k h hn hq n (x+1) f (by omega) (by omega),show x+1+TI (t.ob.drop (x+1)) a=x+(TI (t.ob.drop (x+1)) a+1) from by omega]
   ·rw[decide_eq_false g,if_neg g]
    simp only[cond_false,Nat.add_zero]
theorem Z5 {α:Type} (l:List α) (n:Nat) (hn:n≤l.length) (a:α) (y:Nat) (hy:y<(l.take n++a::l.drop n).length):(l.take n++a::l.drop n)[y]=if h:y<n then l[y] else if h2:y=n then a else l[y-1]'(by simp at hy; omega):=by
 have hl:(l.take n).length=n:=by rw[List.length_take]; omega
 split
 ·rename_i h
  rw[List.getElem_append_left (by omega),List.getElem_take]
 ·split
  ·rename_i h h2
   subst h2
   rw[List.getElem_append_right (by omega)]
   simp only[hl,Nat.sub_self,List.getElem_cons_zero]
  ·rename_i h h2
   obtain ⟨d,rfl⟩:∃ d,y=n+1+d:=⟨y-n-1,by omega⟩
   rw[List.getElem_append_right (by omega)]
   simp only[hl,show n+1+d-n=d+1 from by omega,List.getElem_cons_succ,List.getElem_drop]
   congr 1
   omega
theorem qY (k:Nat) (hk:5000≤k) (h:NV σ i t) (hn:t.ob.length≤4900) (o:RO) (p:En × En) (hp1:Lr σ p.1 o.refs) (hp2:Lr σ p.2 o.data) (hpl:∀ j,j ∈ hs p.1∨j ∈ hs p.2→j<σ.length∧j ∉ i.l) (hpn:(hs p.1++hs p.2).Nodup):
  ∃ σ' os',Hc (k+1) (Cg i) o.addr o.id o.r o.d o.k p.1 p.2 o.pin σ=some (.tuple #[],σ')∧NV σ' { i with os:=os',om:=i.om.take (TI t.ob o.addr)++p::i.om.drop (TI t.ob o.addr) } { t with ob:=VB t.ob o } ∧
   (∀ j,j<σ.length→j≠i.hb→σ'[j]?=σ[j]?)∧σ.length≤σ'.length∧(∀ a,os'.1=some a→σ.length≤a.block)∧(∀ j,j ∈ RI.l { i with os:=os',om:=i.om.take (TI t.ob o.addr)++p::i.om.drop (TI t.ob o.addr) }→j ∈ i.l∨j ∈ hs p.1∨j ∈ hs p.2∨σ.length≤j):=by
 have sep:=h.sep
 have hol:=h.ol
 obtain ⟨n,hN⟩:∃ n,TI t.ob o.addr=n:=⟨_,rfl⟩
 have hnl:n≤t.ob.length:=by rw[← hN]; exact m8 _ _
 obtain ⟨B,hB⟩:∃ B,AY.cells (FL o p) Ak true=B:=⟨_,rfl⟩
 have hb:=h.app [B]
 have lq:∀ (τ:Aa) (x:Nat),Ai .i64 (σ++([B]++τ)) σ.length x=((FL o p)[x]?).bind (B8 .i64):=fun τ x=>by rw[← hB]; simp[Ai,G1]
 have lqs:∀ (τ:Aa) (x:Nat),Ep (σ++([B]++τ)) σ.length x=((FL o p)[x]?).bind Hs:=fun τ x=>by rw[← hB]; simp[Ep,G1]
 have lqb:∀ (τ:Aa) (x:Nat),Xv (σ++([B]++τ)) σ.length x=((FL o p)[x]?).bind Eh:=fun τ x=>by rw[← hB]; simp[Xv,G1]
 have e0:=cI k hb (by show t.ob.length≤5000; omega) (q:=σ.length) (a:=o.addr) (by have:=lq [] 0; rw[List.append_nil] at this; rw[this]; rfl) t.ob.length 0 k (by omega) (by omega)
 rw[List.drop_zero,Nat.zero_add,hN] at e0
 have e0':EB k k (Cg i) σ.length 0 (σ++[B])=_:=e0
 obtain ⟨src1,e1,s1,τ1,a1,sl1,b1⟩:=Rs tx sY tE rfl rfl (by decide) (by decide) (by decide) (σ++[B]) [] (none,0,0) 0 [] (Cj.nil _ _ _) (by intro a ha; cases ha) (by rw[List.append_nil]; exact hb.ob) 0 n (by omega) hnl (by omega) none (some (.int .i64 (n:Int))) (.inr ⟨rfl,rfl⟩) (.inl rfl)
 rw[Nat.zero_mul,List.drop_zero,Nat.sub_zero,List.nil_append,Nat.zero_add,(RD t.ob i.om hol n hnl).1] at sl1
 rw[List.append_nil] at e1 a1
 obtain ⟨s2,τ2,a2,sl2,b2⟩:=Ni tx sY tE rfl rfl (by decide) (by decide) (by decide) (σ++[B]) τ1 s1 n _ 1 1 (FL o p) Ak (by omega) (by decide) rfl sl1 b1
 have a2':Bo P Ak (s1.1,s1.2.1,s1.2.2) (some ⟨(σ++[B]++τ1).length,0,none⟩,1,1) (σ++[B]++τ1++[AY.cells [.int .i64 o.addr,.int .i64 o.id,.int .i64 o.r,.int .i64 o.d,.int .i64 o.k,.slice p.1.1 p.1.2.1 p.1.2.2,.slice p.2.1 p.2.2.1 p.2.2.2,.bool o.pin] Ak true])=some (s2,σ++[B]++τ2):=a2
 have hg2:=hb.app τ2
 obtain ⟨src3,e3,s3,τ3,a3,sl3,b3⟩:=Rs tx sY tE rfl rfl (by decide) (by decide) (by decide) (σ++[B]) τ2 s2 (n+1) _ sl2 b2 hg2.ob n t.ob.length hnl (Nat.le_refl _) (by omega) (some (.int .i64 (n:Int))) none (.inl rfl) (.inr ⟨rfl,rfl⟩)
 rw[(RD t.ob i.om hol n hnl).2,List.take_of_length_le (l:=HY (t.ob.drop n) (i.om.drop n)) (by rw[VQ _ _ (by simp; omega),List.length_drop]; exact Nat.le_refl _),List.append_assoc (HY (t.ob.take n) (i.om.take n)) (FL o p),show FL o p++HY (t.ob.drop n) (i.om.drop n)=HY (o::t.ob.drop n) (p::i.om.drop n) from rfl,← VP _ _ _ _ (by simp; omega)] at sl3
 have hins:VB t.ob o=t.ob.take n++o::t.ob.drop n:=by unfold VB; rw[hN]
 have hlen:(VB t.ob o).length=n+1+(t.ob.length-n):=by rw[hins]; simp; omega
 rw[← hins,← hlen,List.append_assoc] at sl3
 have hg3:=h.app ([B]++τ3)
 have hlt:=h.lt
 have hin:∀ {j},j ∈ i.l→j<σ.length:=fun hj=>hlt _ hj
 have hB3:∀ j ∈ hs s3,σ.length≤j:=fun j hj=>by have:=eR b3 hj; simp at this; omega
 have mA:∀ j ∈ hs i.bs,j<σ.length:=fun j hj=>hin (RI.Ku.2 (.inr (.inl hj)))
 have mC:∀ j ∈ hs i.fs,j<σ.length:=fun j hj=>hin (RI.Ku.2 (.inr (.inr (.inr (.inl hj)))))
 have mD:∀ j ∈ Xw i.om,j<σ.length:=fun j hj=>hin (RI.Ku.2 (.inr (.inr (.inr (.inr hj)))))
 have mh:=hin i.RY
 have mem_om:∀ j,j ∈ Xw (i.om.take n++p::i.om.drop n)↔j ∈ Xw i.om∨j ∈ hs p.1∨j ∈ hs p.2:=by
  intro j
  rw[XV,XW,Qp i.om n]
  simp only[List.mem_append]
  constructor
  ·rintro (h | (h | h) | h)
   ·exact .inl (.inl h)
   ·exact .inr (.inl h)
   ·exact .inr (.inr h)
   ·exact .inl (.inr h)
  ·rintro ((h | h) | h | h)
   ·exact .inl h
   ·exact .inr (.inr h)
   ·exact .inr (.inl (.inl h))
   ·exact .inr (.inl (.inr h))
 have hnd:(Xw (i.om.take n++p::i.om.drop n)).Nodup:=by
  have hD:=sep.D
  rw[Qp i.om n] at hD
  obtain ⟨d1,d2,d3⟩:=List.nodup_append.1 hD
  have out:∀ j,j ∈ hs p.1++hs p.2→j ∉ Xw i.om:=fun j hj hm=>(hpl j (List.mem_append.1 hj)).2 (RI.Ku.2 (.inr (.inr (.inr (.inr hm)))))
  rw[XV,XW]
  refine List.nodup_append.2 ⟨d1,List.nodup_append.2 ⟨hpn,d2, ?_⟩, ?_⟩
  ·intro a ha b hb' e
   subst e
   exact out a ha (by rw[Qp i.om n]; exact List.mem_append.2 (.inr hb'))
  ·intro a ha b hb' e
   subst e
   rcases List.mem_append.1 hb' with hb' | hb'
   ·exact out a hb' (by rw[Qp i.om n]; exact List.mem_append.2 (.inl ha))
   ·exact d3 a ha a hb' rfl
 have pout:∀ {j},j ∈ Xw (i.om.take n++p::i.om.drop n)→j<σ.length:=fun hj=>by
  rcases (mem_om _).1 hj with hj | hj
  ·exact mD _ hj
  ·exact (hpl _ hj).1
 have pne:∀ {j},j ∈ i.hb::(hs i.bs++hs i.fs)→j ∉ Xw (i.om.take n++p::i.om.drop n):=fun {j} hj hm=>by
  rcases (mem_om _).1 hm with hm | hm
  ·rcases List.mem_cons.1 hj with e | hj
   ·exact sep.hD (e ▸ hm)
   ·rcases List.mem_append.1 hj with hj | hj
    ·exact sep.AD _ hj hm
    ·exact sep.CD _ hj hm
  ·refine (hpl _ hm).2 ?_
   rcases List.mem_cons.1 hj with e | hj
   ·rw[e]; exact i.RY
   ·rcases List.mem_append.1 hj with hj | hj
    ·exact RI.Ku.2 (.inr (.inl hj))
    ·exact RI.Ku.2 (.inr (.inr (.inr (.inl hj))))
 rw[hN]
 have sep':Sep { i with os:=s3,om:=i.om.take n++p::i.om.drop n }:=
  { hA:=sep.hA,hB:=fun hh=>Nat.not_lt.2 (hB3 _ hh) mh,hC:=sep.hC,hD:=fun hh=>pne (List.mem_cons_self) hh,
    AB:=fun a ha hh=>by have:=hB3 _ hh; have:=mA _ ha; omega,AC:=sep.AC,AD:=fun a ha hh=>pne (List.mem_cons_of_mem _ (List.mem_append.2 (.inl ha))) hh,
    BC:=fun a ha hh=>by have:=hB3 _ ha; have:=mC _ hh; omega,BD:=fun a ha hh=>by have:=hB3 _ ha; have:=pout hh; omega,CD:=fun a ha hh=>pne (List.mem_cons_of_mem _ (List.mem_append.2 (.inr ha))) hh,D:=hnd }
 have hlt2:∀ j ∈ RI.l { i with os:=s3,om:=i.om.take n++p::i.om.drop n },j<(σ++([B]++τ3)).length:=by
  intro j hj
  rcases RI.Ku.1 hj with hj | hj | hj | hj | hj
  ·have hj':j=i.hb:=hj
   rw[hj',List.length_append]; omega
  ·have:=mA _ hj; simp; omega
  ·obtain ⟨a,ha,rfl⟩:=Kj.1 hj; exact sl3.lt a ha
  ·have:=mC _ hj; simp; omega
  ·have:=pout hj; simp; omega
 have hinn:∀ (y:Nat) (h1:y<(VB t.ob o).length) (h2:y<(i.om.take n++p::i.om.drop n).length),Lr (σ++([B]++τ3)) (i.om.take n++p::i.om.drop n)[y].1 (VB t.ob o)[y].refs∧Lr (σ++([B]++τ3)) (i.om.take n++p::i.om.drop n)[y].2 (VB t.ob o)[y].data:=by
  intro y h1 h2
  simp only[hins] at h1 ⊢
  rw[Z5 t.ob n hnl o y h1,Z5 i.om n (by omega) p y h2]
  have hl1:(t.ob.take n++o::t.ob.drop n).length=t.ob.length+1:=by simp; omega
  by_cases c1:y<n
  ·simp only[c1,dite_true]
   exact hg3.inn y (by omega) (by omega)
  ·by_cases c2:y=n
   ·simp only[c1,c2,dite_false,dite_true,Nat.lt_irrefl]
    exact ⟨hp1.app _,hp2.app _⟩
   ·simp only[c1,c2,dite_false]
    exact hg3.inn (y-1) (by omega) (by omega)
 have hR:=NV.p9 (i:={ i with os:=s3,om:=i.om.take n++p::i.om.drop n }) (t:={ t with ob:=VB t.ob o }) hg3.bl sl3 hg3.fw (by show (i.om.take n++p::i.om.drop n).length=(VB t.ob o).length; rw[hlen]; simp; omega) hinn sep' hlt2
 refine ⟨_,s3, ?_,hR,fun j hj hne=>?_,by simp,fun a ha=>by have:=b3 a ha; simp at this; omega,fun j hj=>?_⟩
 ·rw[Wl,S6]
  have est:AX.G7 (σ++([B]++τ3)) i.hb 1 (.slice s3.1 s3.2.1 s3.2.2)=some ((σ++([B]++τ3)).set i.hb (.cells [.slice i.bs.1 i.bs.2.1 i.bs.2.2,.slice s3.1 s3.2.1 s3.2.2,.slice i.fs.1 i.fs.2.1 i.fs.2.2,.int .i64 t.born] EJ true)):=by
   have hh:=hg3.hp
   generalize σ++([B]++τ3)=μ at hh ⊢
   simp[AX.G7,hh]
  have c0:∀ τ,Ai .i64 (σ++[B]++τ) σ.length 0=some o.addr:=fun τ=>by rw[List.append_assoc,lq]; rfl
  have c1:∀ τ,Ai .i64 (σ++[B]++τ) σ.length 1=some o.id:=fun τ=>by rw[List.append_assoc,lq]; rfl
  have c2:∀ τ,Ai .i64 (σ++[B]++τ) σ.length 2=some o.r:=fun τ=>by rw[List.append_assoc,lq]; rfl
  have c3:∀ τ,Ai .i64 (σ++[B]++τ) σ.length 3=some o.d:=fun τ=>by rw[List.append_assoc,lq]; rfl
  have c4:∀ τ,Ai .i64 (σ++[B]++τ) σ.length 4=some o.k:=fun τ=>by rw[List.append_assoc,lq]; rfl
  have c5:∀ τ,Ep (σ++[B]++τ) σ.length 5=some (p.1.1,p.1.2.1,p.1.2.2):=fun τ=>by rw[List.append_assoc,lqs]; rfl
  have c6:∀ τ,Ep (σ++[B]++τ) σ.length 6=some (p.2.1,p.2.2.1,p.2.2.2):=fun τ=>by rw[List.append_assoc,lqs]; rfl
  have c7:∀ τ,Xv (σ++[B]++τ) σ.length 7=some o.pin:=fun τ=>by rw[List.append_assoc,lqb]; rfl
  have hBox:AY.cells [.int .i64 o.addr,.int .i64 o.id,.int .i64 o.r,.int .i64 o.d,.int .i64 o.k,.slice p.1.1 p.1.2.1 p.1.2.2,.slice p.2.1 p.2.2.1 p.2.2.2,.bool o.pin] Ak true=B:=hB
  rw[← List.append_assoc] at est
  simp only[Ao,hBox,e0',Option.bind_some,if_true,Ds,Nat.zero_add,Nat.add_assoc,Nat.reduceAdd,hb.Mm,e1,a1,c0,c1,c2,c3,c4,c5,c6,c7]
  rw[← hBox] at a2' ⊢
  simp only[a2',Option.bind_some]
  rw[hBox]
  simp only[hg2.Mm,e3,a3,Option.bind_some,est]
  simp only[List.append_assoc]
 ·rw[List.getElem?_set_ne (Ne.symm hne),List.getElem?_append_left hj]
 ·rcases RI.Ku.1 hj with hj | hj | hj | hj | hj
  ·exact .inl (by rw[hj]; exact i.RY)
  ·exact .inl (RI.Ku.2 (.inr (.inl hj)))
  ·exact .inr (.inr (.inr (hB3 _ hj)))
  ·exact .inl (RI.Ku.2 (.inr (.inr (.inr (.inl hj)))))
  ·rcases (mem_om _).1 hj with hj | hj | hj
   ·exact .inl (RI.Ku.2 (.inr (.inr (.inr (.inr hj)))))
   ·exact .inr (.inl hj)
   ·exact .inr (.inr (.inl hj))
end Go.Proofs.YtlaplcglpnlieaaGreat
end
section
namespace Go.Proofs.YtlaplcglpnlieaaGreat
open Go Go.AX
noncomputable local instance wM:AK:=As
local instance vu:Kn:=⟨true⟩
variable {σ:Aa} {m:HM} {t:RM} {i:RI}
theorem pL (k:Nat) (hk:5000≤k) (h:RG σ i m t) (hP:Oo m) (hS:Sh m) (a:Int):Hw (Fw (k+4) (Cg i) a σ) σ i (.int .i64 (Pv m a).1) (Pv m a).2:=by
 have hol:=h.ol
 rw[Vk,Ry]
 have hix:=jj (k+1) (by omega) h a
 simp only[pR k hk h a,Option.bind_some,Am]
 unfold Pv
 cases hh:Pt m a with
 | false=>
   simp only[Bool.false_eq_true,if_false,uv,cond_true]
   exact Hw.RL h hP rfl
 | true=>
   obtain ⟨x,j,b,p,F⟩:=h.found hh
   obtain ⟨σ',os',e,h',k',_,_⟩:=qV (k+2) h.at_ (by omega) F.xl
   have ea:a.toNat/2=j:=by rw[F.e,Int.toNat_natCast]; omega
   obtain ⟨s1,s2⟩:=h.sim.kill h.inv hS hP F.st F.all
   rw[ea]
   simp only[if_true,bne_self_eq_false,cond_false,hix,Option.bind_some,Am,F.idx,e,JG]
   exact ⟨σ',_,_,rfl,h',s1,s2,k'⟩
end Go.Proofs.YtlaplcglpnlieaaGreat
end
