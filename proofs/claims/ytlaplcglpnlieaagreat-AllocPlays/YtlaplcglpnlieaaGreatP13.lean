/- What the calls that change a heap come to (first part): the parts of a heap turned one by one; fields.; What the calls that change a heap come to (sec -/
import Derived.Test.YtlaplcglpnlieaaGreatP12
set_option linter.unusedVariables false
set_option linter.unusedSimpArgs false
set_option linter.unusedSectionVars false
section
namespace Go.Proofs.YtlaplcglpnlieaaGreat
open Go Go.AX
noncomputable local instance zB:Bb:=Az
local instance yC:Kn:=⟨true⟩
variable {σ:Aa} {i:CU} {m:HM}
theorem CU.ne (h:i.l.Nodup):i.hb≠i.bl∧i.hb≠i.wd∧i.hb≠i.st∧i.hb≠i.sw∧i.hb≠i.pn∧i.hb≠i.pw∧i.hb≠i.pl∧i.hb≠i.fw ∧
  i.bl≠i.wd∧i.bl≠i.st∧i.bl≠i.sw∧i.bl≠i.pn∧i.bl≠i.pw∧i.bl≠i.pl∧i.bl≠i.fw ∧
  i.wd≠i.st∧i.wd≠i.sw∧i.wd≠i.pn∧i.wd≠i.pw∧i.wd≠i.pl∧i.wd≠i.fw ∧
  i.st≠i.sw∧i.st≠i.pn∧i.st≠i.pw∧i.st≠i.pl∧i.st≠i.fw∧i.sw≠i.pn∧i.sw≠i.pw∧i.sw≠i.pl∧i.sw≠i.fw ∧
  i.pn≠i.pw∧i.pn≠i.pl∧i.pn≠i.fw∧i.pw≠i.pl∧i.pw≠i.fw∧i.pl≠i.fw:=by
 simp[CU.l,and_assoc] at h
 simp only[ne_eq]
 exact h
theorem Ah.vw (h:Ah σ i m) (l:List Int) (hl:l.length=m.wds.length) (hi:∀ a,AV (l.getD a 0)):Ah (σ.set i.wd (.cells (CN l) DM true)) i { m with wds:=l }:=by
 obtain ⟨n1,n2,n3,n4,n5,n6,n7,n8,n9,n10,n11,n12,n13,n14,n15,n16,n17,n18,n19,n20,n21,n22,n23,n24,n25,n26,n27,n28,n29,n30,n31,n32,n33,n34,n35,n36⟩:=CU.ne h.nd
 have g:∀ {j},j≠i.wd→(σ.set i.wd (.cells (CN l) DM true))[j]?=σ[j]?:=fun hj=>List.getElem?_set_ne (Ne.symm hj)
 exact ⟨by rw[g (by first | assumption | (apply Ne.symm; assumption)),h.hp]; simp only[hl],by rw[g (by first | assumption | (apply Ne.symm; assumption))]; exact h.bl,by rw[List.getElem?_set_self (Af h.wd)],h.st.same (g (by first | assumption | (apply Ne.symm; assumption))) (g (by first | assumption | (apply Ne.symm; assumption))),h.pn.same (g (by first | assumption | (apply Ne.symm; assumption))) (g (by first | assumption | (apply Ne.symm; assumption))),by rw[g (by first | assumption | (apply Ne.symm; assumption))]; exact h.pl,by rw[g (by first | assumption | (apply Ne.symm; assumption))]; exact h.fw,h.nb,h.nt,by rw[hl]; exact h.wl,h.nd,hi⟩
theorem Ah.jA (h:Ah σ i m) (l:List (Int × Int)) (hl:l.length=m.bls.length):Ah (σ.set i.bl (.cells (Cv l) Ej true)) i { m with bls:=l }:=by
 obtain ⟨n1,n2,n3,n4,n5,n6,n7,n8,n9,n10,n11,n12,n13,n14,n15,n16,n17,n18,n19,n20,n21,n22,n23,n24,n25,n26,n27,n28,n29,n30,n31,n32,n33,n34,n35,n36⟩:=CU.ne h.nd
 have g:∀ {j},j≠i.bl→(σ.set i.bl (.cells (Cv l) Ej true))[j]?=σ[j]?:=fun hj=>List.getElem?_set_ne (Ne.symm hj)
 exact ⟨by rw[g (by first | assumption | (apply Ne.symm; assumption)),h.hp]; simp only[hl],by rw[List.getElem?_set_self (Af h.bl)],by rw[g (by first | assumption | (apply Ne.symm; assumption))]; exact h.wd,by rw[hl]; exact h.st.same (g (by first | assumption | (apply Ne.symm; assumption))) (g (by first | assumption | (apply Ne.symm; assumption))),by rw[hl]; exact h.pn.same (g (by first | assumption | (apply Ne.symm; assumption))) (g (by first | assumption | (apply Ne.symm; assumption))),by rw[g (by first | assumption | (apply Ne.symm; assumption))]; exact h.pl,by rw[g (by first | assumption | (apply Ne.symm; assumption))]; exact h.fw,by rw[hl]; exact h.nb,by rw[hl]; exact h.nt,by rw[hl]; exact h.wl,h.nd,h.wi⟩
theorem Ah.vv (h:Ah σ i m) (j v:Nat):Ah (σ.set i.sw (.cells (rowOf (Il 1 m.stw j v)) Cc true)) i { m with stw:=Il 1 m.stw j v }:=by
 obtain ⟨n1,n2,n3,n4,n5,n6,n7,n8,n9,n10,n11,n12,n13,n14,n15,n16,n17,n18,n19,n20,n21,n22,n23,n24,n25,n26,n27,n28,n29,n30,n31,n32,n33,n34,n35,n36⟩:=CU.ne h.nd
 have g:∀ {j'},j'≠i.sw→(σ.set i.sw (.cells (rowOf (Il 1 m.stw j v)) Cc true))[j']?=σ[j']?:=fun hj=>List.getElem?_set_ne (Ne.symm hj)
 exact ⟨by rw[g (by first | assumption | (apply Ne.symm; assumption)),h.hp],by rw[g (by first | assumption | (apply Ne.symm; assumption))]; exact h.bl,by rw[g (by first | assumption | (apply Ne.symm; assumption))]; exact h.wd,h.st.put (by first | assumption | (apply Ne.symm; assumption)) j v,h.pn.same (g (by first | assumption | (apply Ne.symm; assumption))) (g (by first | assumption | (apply Ne.symm; assumption))),by rw[g (by first | assumption | (apply Ne.symm; assumption))]; exact h.pl,by rw[g (by first | assumption | (apply Ne.symm; assumption))]; exact h.fw,h.nb,h.nt,h.wl,h.nd,h.wi⟩
theorem Ah.xh (h:Ah σ i m) (j v:Nat):Ah (σ.set i.pw (.cells (rowOf (Il 1 m.pnw j v)) Cc true)) i { m with pnw:=Il 1 m.pnw j v }:=by
 obtain ⟨n1,n2,n3,n4,n5,n6,n7,n8,n9,n10,n11,n12,n13,n14,n15,n16,n17,n18,n19,n20,n21,n22,n23,n24,n25,n26,n27,n28,n29,n30,n31,n32,n33,n34,n35,n36⟩:=CU.ne h.nd
 have g:∀ {j'},j'≠i.pw→(σ.set i.pw (.cells (rowOf (Il 1 m.pnw j v)) Cc true))[j']?=σ[j']?:=fun hj=>List.getElem?_set_ne (Ne.symm hj)
 exact ⟨by rw[g (by first | assumption | (apply Ne.symm; assumption)),h.hp],by rw[g (by first | assumption | (apply Ne.symm; assumption))]; exact h.bl,by rw[g (by first | assumption | (apply Ne.symm; assumption))]; exact h.wd,h.st.same (g (by first | assumption | (apply Ne.symm; assumption))) (g (by first | assumption | (apply Ne.symm; assumption))),h.pn.put (by first | assumption | (apply Ne.symm; assumption)) j v,by rw[g (by first | assumption | (apply Ne.symm; assumption))]; exact h.pl,by rw[g (by first | assumption | (apply Ne.symm; assumption))]; exact h.fw,h.nb,h.nt,h.wl,h.nd,h.wi⟩
theorem Ah.vu (h:Ah σ i m) (l:List (Int × Int)):Ah (σ.set i.pl (.map (Pq l))) i { m with pl:=l }:=by
 obtain ⟨n1,n2,n3,n4,n5,n6,n7,n8,n9,n10,n11,n12,n13,n14,n15,n16,n17,n18,n19,n20,n21,n22,n23,n24,n25,n26,n27,n28,n29,n30,n31,n32,n33,n34,n35,n36⟩:=CU.ne h.nd
 have g:∀ {j},j≠i.pl→(σ.set i.pl (.map (Pq l)))[j]?=σ[j]?:=fun hj=>List.getElem?_set_ne (Ne.symm hj)
 exact ⟨by rw[g (by first | assumption | (apply Ne.symm; assumption)),h.hp],by rw[g (by first | assumption | (apply Ne.symm; assumption))]; exact h.bl,by rw[g (by first | assumption | (apply Ne.symm; assumption))]; exact h.wd,h.st.same (g (by first | assumption | (apply Ne.symm; assumption))) (g (by first | assumption | (apply Ne.symm; assumption))),h.pn.same (g (by first | assumption | (apply Ne.symm; assumption))) (g (by first | assumption | (apply Ne.symm; assumption))),by rw[List.getElem?_set_self (Af h.pl)],by rw[g (by first | assumption | (apply Ne.symm; assumption))]; exact h.fw,h.nb,h.nt,h.wl,h.nd,h.wi⟩
theorem Ah.yo (h:Ah σ i m) (b:Int):∃ σ',Gn σ i.hb 6 (.int .i64 b)=some σ'∧Ah σ' i { m with births:=b }∧BZ i σ σ':=by
 obtain ⟨n1,n2,n3,n4,n5,n6,n7,n8,n9,n10,n11,n12,n13,n14,n15,n16,n17,n18,n19,n20,n21,n22,n23,n24,n25,n26,n27,n28,n29,n30,n31,n32,n33,n34,n35,n36⟩:=CU.ne h.nd
 simp only[Gn,h.hp]
 refine ⟨_,rfl, ?_,BZ.set σ _ (by simp[CU.l])⟩
 have g:∀ {j o},j≠i.hb→(σ.set i.hb o)[j]?=σ[j]?:=fun hj=>List.getElem?_set_ne (Ne.symm hj)
 exact ⟨by rw[List.getElem?_set_self (Af h.hp)]; rfl,by rw[g (by first | assumption | (apply Ne.symm; assumption))]; exact h.bl,by rw[g (by first | assumption | (apply Ne.symm; assumption))]; exact h.wd,h.st.same (g (by first | assumption | (apply Ne.symm; assumption))) (g (by first | assumption | (apply Ne.symm; assumption))),h.pn.same (g (by first | assumption | (apply Ne.symm; assumption))) (g (by first | assumption | (apply Ne.symm; assumption))),by rw[g (by first | assumption | (apply Ne.symm; assumption))]; exact h.pl,by rw[g (by first | assumption | (apply Ne.symm; assumption))]; exact h.fw,h.nb,h.nt,h.wl,h.nd,h.wi⟩
theorem qL (l:List Int) (a:Nat) (v:Int):CN (l.set a v)=(CN l).set a (.int .i64 v):=by simp[CN,List.map_set]
theorem Dd (l:List Int) (a b:Nat) (v:Int):(l.set a v).getD b 0=if a=b∧a<l.length then v else l.getD b 0:=by
 simp only[List.getD_eq_getElem?_getD,List.getElem?_set]
 split
 ·rename_i e; subst e
  split
  ·rename_i h; simp[h]
  ·rename_i h; simp[h,List.getElem?_eq_none (Nat.le_of_not_lt h)]
 ·rename_i e; simp[e]
theorem Ah.Gn (h:Ah σ i m) {a:Nat} (ha:a<m.wds.length) (v:Int) (hv:AV v):AX.Gn σ i.wd a (.int .i64 v)=some (σ.set i.wd (.cells (CN (m.wds.set a v)) DM true))∧Ah (σ.set i.wd (.cells (CN (m.wds.set a v)) DM true)) i { m with wds:=m.wds.set a v }:=by
 refine ⟨?_,h.vw _ (by simp) fun b=>?_⟩
 ·simp only[AX.Gn,h.wd,GW,ha,if_true,qL]
 ·rw[Dd]
  split
  ·exact hv
  ·exact h.wi b
def Ft (m:HM) (a x:Int) (data:Bool):Int × Int:=
 if I0 m a then
  let j:=a.toNat/2
  let first:=a+2+(if data then AQ m j else 0)
  if 0≤x∧x<(if data then BB m j else AQ m j) then (first+x,0) else (0,1)
 else (0,4)
theorem lL (k:Nat) (h:Ah σ i m) (hI:Inv m) (a x:Int) (ha:AV a) (data:Bool):∃ τ,FQ (k+6) (BN i) a x data σ=some (.tuple #[.int .i64 (Ft m a x data).1,.int .i64 (Ft m a x data).2],σ++τ):=by
 have hw:=h.wl
 have ht:=h.nt
 rw[WZ,Tj]
 simp only[U9 _ h a ha,Option.bind_some,Am]
 cases hh:I0 m a with
 | false=>exact ⟨[],by simp[Ft,hh]⟩
 | true=>
   obtain ⟨j,rfl,hs⟩:=IA hh
   obtain ⟨z1,z2,z3,z4,z5,z6⟩:=hI.size hs
   have hj:=hs.1
   have e1:Ae (((2*j:Nat):Int)+1)=((2*j+1:Nat):Int):=Ad (by unfold AV; omega)
   have e2:Ae (((2*j:Nat):Int)+2)=((2*j+2:Nat):Int):=Ad (by unfold AV; omega)
   obtain ⟨τ,hsh⟩:=gB (k+4) (m.wds.getD (2*j+1) 0) (h.wi _) σ
   simp only[if_true,bne_self_eq_false,cond_false,Nat.zero_add,h.HA,e1,Int.toNat_natCast,Nat.mul_one,Option.bind_some]
   rw[if_pos (by omega)]
   simp only[Option.bind_some,h.qO (show 2*j+1<m.wds.length by omega),hsh,Z8,An]
   refine ⟨τ++[.cells [.int .i64 (AQ m j),.int .i64 (BB m j),.int .i64 ((m.wds.getD (2*j+1) 0).tdiv 4096)] Ag true], ?_⟩
   have hst:∀ (μ:Aa) (x y z:Value) (u v w:Value) T,Ip (μ++[.cells [x,y,z] T true]) μ.length 0 [u,v,w]=some (μ++[.cells [u,v,w] T true]):=by
    intro μ x y z u v w T; simp[Ip,AN]
   simp only[hst,Option.bind_some,Ml,Nat.zero_add,List.getElem?_cons_zero,List.getElem?_cons_succ,Am]
   rw[show ((m.wds.getD (2*j+1) 0).tmod 4096).tdiv 16=BB m j from rfl,show (m.wds.getD (2*j+1) 0).tmod 16=AQ m j from rfl]
   rw[List.append_assoc]
   have ej:((2*j:Nat):Int).toNat/2=j:=by omega
   unfold Ft
   rw[hh]
   simp only[if_true,ej,e2]
   have main:∀ (f0 many:Int),0≤many→many≤4000→0≤f0→f0≤5000 → ∀ (μ:Aa),((bif decide (x<0) then some (true,μ) else some (decide (x≥many),μ)).bind fun r20=>bif r20.1 then (some (Value.tuple #[.int .i64 (0:Int),.int .i64 (1:Int)],r20.2)) else (some (.tuple #[.int .i64 (Ae (f0+x)),.int .i64 (0:Int)],r20.2))) =
     some (.tuple #[.int .i64 (if 0≤x∧x<many then (f0+x,(0:Int)) else (0,1)).1,.int .i64 (if 0≤x∧x<many then (f0+x,(0:Int)) else (0,1)).2],μ):=by
    intro f0 many h1 h2 h3 h4 μ
    by_cases c1:x<0
    ·simp only[show decide (x<0)=true from by simpa using c1,cond_true,Option.bind_some,show ¬ (0≤x∧x<many) from by omega,if_false]
    ·by_cases c2:x<many
     ·simp only[show decide (x<0)=false from by simpa using c1,cond_false,Option.bind_some,show decide (x≥many)=false from by simp; omega,show (0≤x∧x<many) from by omega,and_self,if_true]
      rw[Ad (by unfold AV; omega)]
     ·simp only[show decide (x<0)=false from by simpa using c1,cond_false,Option.bind_some,show decide (x≥many)=true from by simp; omega,cond_true,show ¬ (0≤x∧x<many) from by omega,if_false]
   cases data with
   | false=>
     simp only[cond_false,Option.bind_some,if_true,Gi,Bool.false_eq_true,if_false,Int.add_zero]
     rw[main _ _ z4 (by omega) (by omega) (by omega)]
     rw[show ((2*j+2:Nat):Int)=((2*j:Nat):Int)+2 from by omega]
   | true=>
     have e3:Ae (((2*j+2:Nat):Int)+AQ m j)=((2*j:Nat):Int)+2+AQ m j:=by rw[Ad (by unfold AV; omega)]; omega
     simp only[cond_true,Option.bind_some,if_true,Gi,e3]
     rw[main _ _ z5 (by omega) (by omega) (by omega)]
theorem Inv.uU (h:Inv m) {j t:Nat} (hs:Start m j) (ht:2+t<sz m j) (v:Int):Inv { m with wds:=m.wds.set (2*j+2+t) v }:=by
 have hkey:∀ j',Start m j' → ∀ c,c<2→(m.wds.set (2*j+2+t) v).getD (2*j'+c) 0=m.wds.getD (2*j'+c) 0:=by
  intro j' hs' c hc
  rw[Dd,if_neg]
  rintro ⟨e,_⟩
  have h1:=h.apart j j' hs hs'
  have hz:=h.size hs'
  rcases Nat.lt_trichotomy j j' with hlt | rfl | hlt
  ·have:=h1 hlt; omega
  ·omega
  ·omega
 have key0:∀ j',Start m j'→(m.wds.set (2*j+2+t) v).getD (2*j') 0=m.wds.getD (2*j') 0:=fun j' hs'=>hkey j' hs' 0 (by decide)
 have hsz:∀ j',Start m j'→sz { m with wds:=m.wds.set (2*j+2+t) v } j'=sz m j':=fun j' hs'=>by
  unfold sz; rw[hkey j' hs' 1 (by decide)]
 refine ⟨fun j' hs'=>?_,fun j' hs'=>?_,fun j1 j2 h1 h2 hlt=>?_,fun j' hs'=>?_,fun id a hg=>?_,h.brt,h.onc⟩
 ·obtain ⟨r,d,k,hv,hn⟩:=h.good j' hs'
  exact ⟨r,d,k,hv,by rw[hkey j' hs' 1 (by decide)]; exact hn⟩
 ·rw[hsz j' hs']; simpa using h.fit j' hs'
 ·rw[hsz j1 h1]; exact h.apart j1 j2 h1 h2 hlt
 ·have:=h.idn j' hs'
  rw[← key0 j' hs'] at this
  exact this
 ·obtain ⟨j',rfl,hs',he⟩:=h.plc id a hg
  exact ⟨j',rfl,hs',(key0 j' hs').trans he⟩
end Go.Proofs.YtlaplcglpnlieaaGreat
end
section
namespace Go.Proofs.YtlaplcglpnlieaaGreat
open Go Go.AX
noncomputable local instance zC:Bb:=Az
local instance yD:Kn:=⟨true⟩
variable {σ:Aa} {i:CU} {m:HM}
def TD (mm:Option (Value × Aa)) (σ:Aa) (i:CU) (r:Int × HM):Prop:=
 ∃ σ',mm=some (.int .i64 r.1,σ')∧Ah σ' i r.2∧BZ i σ σ'
theorem TD.same (h:Ah σ i m) (τ:Aa) {code:Int} {mm:Option (Value × Aa)} (he:mm=some (.int .i64 code,σ++τ)) {r:Int × HM} (hr:r=(code,m)):TD mm σ i r:=
 ⟨σ++τ,by rw[hr]; exact he,by rw[hr]; exact h.app τ,BZ.app i σ τ⟩
theorem TD.to {mm mm':Option (Value × Aa)} {r:Int × HM} (h:TD mm σ i r) (f:∀ σ',mm=some (.int .i64 r.1,σ')→mm'=some (.int .i64 r.1,σ')):TD mm' σ i r:=by
 obtain ⟨σ',e,g⟩:=h
 exact ⟨σ',f σ' e,g⟩
def Rk (m:HM) (a:Nat) (v:Int):HM:={ m with wds:=m.wds.set a v }
def Yb (m:HM) (a x v:Int):Int × HM:=
 if (Ft m a x false).2=0 then (if v≠0∧I0 m v=false then (1,m) else (0,Rk m (Ft m a x false).1.toNat v)) else ((Ft m a x false).2,m)
def UH (m:HM) (a x v:Int):Int × HM:=
 if (Ft m a x true).2=0 then (0,Rk m (Ft m a x true).1.toNat v) else ((Ft m a x true).2,m)
def ir (m:HM) (a:Int) (v:Nat):Int × HM:=if I0 m a then (0,{ m with pnw:=Il 1 m.pnw (a.toNat/2) v }) else (4,m)
def jr (m:HM) (a v:Int):Int × HM:=
 if 0≤a∧a<(m.wds.length:Int) then (match Rg m a.toNat with
  | none=>(4,m)
  | some j=>if ((2*j+2:Nat):Int)≤a∧a<((2*j+2:Nat):Int)+AQ m j+BB m j then (0,Rk m a.toNat v) else (4,m)) else (1,m)
theorem Inv.pins (h:Inv m) (l:List (BitVec 64)):Inv { m with pnw:=l }:=⟨h.good,h.fit,h.apart,h.idn,h.plc,h.brt,h.onc⟩
theorem Inv.ZO (h:Inv m) (l:List (Int × Int)):Inv { m with fw:=l }:=⟨h.good,h.fit,h.apart,h.idn,h.plc,h.brt,h.onc⟩
theorem ug (k:Nat) (h:Ah σ i m) (a:Int):GC (k+2) (BN i) a σ=some (if 0≤a∧a<(m.wds.length:Int) then .tuple #[.int .i64 (m.wds.getD a.toNat 0),.int .i64 0] else .tuple #[.int .i64 0,.int .i64 1],σ):=by
 rw[Ym,Uj]
 simp only[H9 _ h,Option.bind_some,Ao,Bool.not_true,cond_false]
 by_cases h0:0≤a
 ·simp only[show decide (a<0)=false from by simp; omega,cond_false,Nat.zero_add,h.HA,Option.bind_some]
  by_cases h1:a<(m.wds.length:Int)
  ·simp only[show decide (a≥((m.wds.length:Nat):Int))=false from by simp; omega,cond_false,show (0≤a∧a<(m.wds.length:Int)) from ⟨h0,h1⟩,and_self,if_true,Option.bind_some,Nat.zero_add,Nat.mul_one,h.qO (show a.toNat<m.wds.length by omega)]
  ·simp only[show decide (a≥((m.wds.length:Nat):Int))=true from by simp; omega,cond_true,show ¬ (0≤a∧a<(m.wds.length:Int)) from by omega,if_false]
 ·simp only[show decide (a<0)=true from by simp; omega,cond_true,Option.bind_some,show ¬ (0≤a∧a<(m.wds.length:Int)) from by omega,if_false]
def DP (m:HM) (j:Nat) (n:Int):HM:=
 { m with wds:=(m.wds.set (2*j) (m.births+1)).set (2*j+1) n,stw:=Il 1 m.stw j 1,pl:=SI (m.births+1) ((2*j:Nat):Int) m.pl,births:=m.births+1 }
theorem TC {n:Int} {j j':Nat} (hl:32*m.bls.length≤64*m.stw.length) (hj:j<32*m.bls.length):Start (DP m j n) j'↔j'=j∨Start m j':=by
 unfold Start DP
 simp only
 by_cases hq:j'=j
 ·subst hq
  simp only[true_or,iff_true]
  exact ⟨hj,Gg (.inl rfl) (by decide) (by omega)⟩
 ·rw[C6 (.inl rfl) (by decide) (fun e=>hq e.symm)]
  simp[hq]
theorem Inv.place (h:Inv m) (hw:m.wds.length=64*m.bls.length) (hl:32*m.bls.length≤64*m.stw.length) {j:Nat} {r d k:Int} (hv:valid r d k=true) (hj:j<32*m.bls.length)
  (hfit:2*j+UQ (num r d k)≤m.wds.length) (hap:∀ o,Start m o→2*o+sz m o≤2*j∨2*j+UQ (num r d k)≤2*o):Inv (DP m j (num r d k)):=by
 have hst:=fun j'=>TC (m:=m) (n:=num r d k) (j:=j) (j':=j') hl hj
 have hnj:¬ Start m j:=fun hs=>by
  have h1:=hap j hs
  have h2:=h.size hs
  have h3:2≤UQ (num r d k):=by
   rw[Qb hv]
   simp[valid] at hv
   omega
  omega
 have w0:(DP m j (num r d k)).wds.getD (2*j) 0=m.births+1:=by
  unfold DP; simp only
  rw[Dd,if_neg (by omega),Dd,if_pos (by omega)]
 have w1:(DP m j (num r d k)).wds.getD (2*j+1) 0=num r d k:=by
  unfold DP; simp only
  rw[Dd,if_pos ⟨rfl,by simp; omega⟩]
 have wo:∀ j' c,j'≠j→c<2→(DP m j (num r d k)).wds.getD (2*j'+c) 0=m.wds.getD (2*j'+c) 0:=by
  intro j' c hne hc
  unfold DP; simp only
  rw[Dd,if_neg (by omega),Dd,if_neg (by omega)]
 have s1:sz (DP m j (num r d k)) j=UQ (num r d k):=by unfold sz; rw[w1]
 have so:∀ j',j'≠j→sz (DP m j (num r d k)) j'=sz m j':=fun j' hne=>by unfold sz; rw[wo j' 1 hne (by decide)]
 have wl:(DP m j (num r d k)).wds.length=m.wds.length:=by simp[DP]
 have wo0:∀ j',j'≠j→(DP m j (num r d k)).wds.getD (2*j') 0=m.wds.getD (2*j') 0:=fun j' hne=>wo j' 0 hne (by decide)
 have hpl:∀ x,getM (DP m j (num r d k)).pl x=if x=m.births+1 then some ((2*j:Nat):Int) else getM m.pl x:=fun x=>Sy _ _ _ _
 have hne:∀ j',Start m j'→j'≠j:=fun j' hs e=>hnj (e ▸ hs)
 refine ⟨fun j' hs'=>?_,fun j' hs'=>?_,fun j1 j2 h1 h2 hlt=>?_,fun j' hs'=>?_,fun id a hg=>?_, ?_, ?_⟩
 ·rcases (hst j').1 hs' with rfl | hs'
  ·exact ⟨r,d,k,hv,w1⟩
  ·obtain ⟨r',d',k',hv',hn⟩:=h.good j' hs'
   exact ⟨r',d',k',hv',by rw[wo j' 1 (hne j' hs') (by decide)]; exact hn⟩
 ·rw[wl]
  rcases (hst j').1 hs' with rfl | hs'
  ·rw[s1]; exact hfit
  ·rw[so j' (hne j' hs')]; exact h.fit j' hs'
 ·rcases (hst j1).1 h1 with rfl | h1'
  ·rcases (hst j2).1 h2 with rfl | h2'
   ·omega
   ·rw[s1]
    have:=hap j2 h2'
    have:=h.size h2'
    omega
  ·rw[so j1 (hne j1 h1')]
   rcases (hst j2).1 h2 with rfl | h2'
   ·have:=hap j1 h1'
    omega
   ·exact h.apart j1 j2 h1' h2' hlt
 ·rw[hpl]
  rcases (hst j').1 hs' with rfl | hs'
  ·rw[w0]
   have:=h.brt
   refine ⟨by omega,by show _≤m.births+1; omega,if_pos rfl⟩
  ·rw[wo0 j' (hne j' hs')]
   obtain ⟨i1,i2,i3⟩:=h.idn j' hs'
   refine ⟨i1,by show _≤m.births+1; omega, ?_⟩
   rw[if_neg (by omega)]; exact i3
 ·rw[hpl] at hg
  split at hg
  ·rename_i hid
   cases hg
   exact ⟨j,rfl,(hst j).2 (.inl rfl),by rw[w0,hid]⟩
  ·obtain ⟨j',rfl,hs',he⟩:=h.plc id a hg
   exact ⟨j',rfl,(hst j').2 (.inr hs'),by rw[wo0 j' (hne j' hs')]; exact he⟩
 ·have:=h.brt
  show 0≤m.births+1
  omega
 ·exact X5 _ _ _ h.onc
theorem qR (k:Nat) {r d c:Int} (hv:valid r d c=true) (σ:Aa):∃ τ,Jn (k+1) r d c σ=some (.int .i64 (num r d c),σ++τ):=by
 rw[Uu,TH]
 simp only[An,Ml,Nat.zero_add,List.getElem?_cons_zero,List.getElem?_cons_succ,Option.bind_some,Am]
 simp[valid] at hv
 have e1:Ae (16*d)=16*d:=Ad (by unfold AV; omega)
 have e2:Ae (r+16*d)=r+16*d:=Ad (by unfold AV; omega)
 have e3:Ae (4096*c)=4096*c:=Ad (by unfold AV; omega)
 have e4:Ae (r+16*d+4096*c)=r+16*d+4096*c:=Ad (by unfold AV; omega)
 simp only[e1,e2,e3,e4,num]
 exact ⟨_,rfl⟩
theorem jE {l:List (BitVec 64)} {n:Nat} (h:l.length=(32*n*1+63)/64):32*n≤64*l.length:=by omega
def CC (m:HM) (a r d c:Int):Int × Int × HM:=
 if valid r d c then (if OK m a (UQ (num r d c)) (-1)=0 then (m.births+1,0,DP m (a.toNat/2) (num r d c)) else (0,OK m a (UQ (num r d c)) (-1),m)) else (0,2,m)
theorem kR (k:Nat) (hk:5000≤k) (h:Ah σ i m) (hI:Inv m) (hb:m.births<1000000) (a r d c:Int) (ha:AV a):∃ σ',C4 (k+12) (BN i) a r d c σ=some (.tuple #[.int .i64 (CC m a r d c).1,.int .i64 (CC m a r d c).2.1],σ')∧Ah σ' i (CC m a r d c).2.2∧BZ i σ σ':=by
 have ht:=h.nt
 have hw:=h.wl
 rw[Ql,Ou]
 simp only[An]
 obtain ⟨μ0,hμ0⟩:∃ μ0,σ++[AJ.cells [Value.int .i64 r,.int .i64 d,.int .i64 c] Ag true]=μ0:=⟨_,rfl⟩
 have h0:Ah μ0 i m:=hμ0 ▸ h.app _
 have k0:BZ i σ μ0:=hμ0 ▸ BZ.app i σ _
 have hbox:μ0[σ.length]?=some (AJ.cells [Value.int .i64 r,.int .i64 d,.int .i64 c] Ag true):=by rw[← hμ0]; simp
 have bx:∀ {μ:Aa},μ[σ.length]?=some (AJ.cells [Value.int .i64 r,.int .i64 d,.int .i64 c] Ag true)→Ak .i64 μ σ.length 0=some r∧Ak .i64 μ σ.length 1=some d∧Ak .i64 μ σ.length 2=some c:=by
  intro μ hm; simp[Ak,Gr,hm,Bu]
 have hnew:σ.length ∉ i.l:=fun hm=>Nat.lt_irrefl _ (h.lt _ hm)
 have bk:∀ {μ μ':Aa},BZ i μ μ'→μ[σ.length]?=some (AJ.cells [Value.int .i64 r,.int .i64 d,.int .i64 c] Ag true)→μ'[σ.length]?=some (AJ.cells [Value.int .i64 r,.int .i64 d,.int .i64 c] Ag true):=fun hk hm=>(hk.same _ (Af hm) hnew).trans hm
 obtain ⟨τ1,hV⟩:=TM (k+10) r d c μ0
 rw[hμ0]
 obtain ⟨b0,b1,b2⟩:=bx hbox
 simp only[H9 _ h0,Option.bind_some,Ao,Bool.not_true,cond_false,Nat.zero_add,Nat.reduceAdd,b0,b1,b2,hV]
 cases hv:valid r d c with
 | false=>
   unfold CC
   rw[hv]
   exact ⟨μ0++τ1,by simp,h0.app _,k0.trans (BZ.app i μ0 τ1)⟩
 | true=>
   have hx1:=bk (BZ.app i μ0 τ1) hbox
   obtain ⟨c0,c1,c2⟩:=bx hx1
   obtain ⟨τ2,hW⟩:=TO (k+9) r d c (μ0++τ1)
   have hwo:words r d c=((UQ (num r d c):Nat):Int):=by
    rw[Qb hv]; unfold words; rw[hv]; simp only[cond_true]
    simp[valid] at hv
    omega
   have hwl:=gN (num r d c)
   have hw2:2≤UQ (num r d c):=by
    rw[Qb hv]
    simp[valid] at hv
    omega
   have h1:Ah (μ0++τ1++τ2) i m:=(h0.app _).app _
   obtain ⟨τ3,hF⟩:=uz k hk h1 a (UQ (num r d c)) (-1) hw2 hwl
   simp only[Bool.not_true,cond_false,c0,c1,c2,hW,Option.bind_some,Am,hwo,hF]
   obtain ⟨μ1,hμ1⟩:∃ μ1,μ0++τ1++τ2++τ3=μ1:=⟨_,rfl⟩
   rw[hμ1]
   have hh1:Ah μ1 i m:=hμ1 ▸ h1.app _
   have k1:BZ i μ0 μ1:=hμ1 ▸ (((BZ.app i μ0 τ1).trans (BZ.app i _ τ2)).trans (BZ.app i _ τ3))
   have hx2:=bk k1 hbox
   by_cases hc:OK m a (UQ (num r d c)) (-1)=0
   rotate_left
   ·have q:(OK m a (UQ (num r d c)) (-1) != 0)=true:=by simpa using hc
    simp only[q,cond_true]
    unfold CC
    rw[hv,if_pos rfl,if_neg hc]
    exact ⟨μ1,rfl,hh1,k0.trans k1⟩
   obtain ⟨j,rfl,hj,hfit,hap⟩:=hI.fits hw hwl hw2 hc
   have hbrt:=hI.brt
   obtain ⟨μ2,e2,hh2,k2⟩:=hh1.yo (m.births+1)
   have hx3:=bk k2 hx2
   obtain ⟨d0,d1,d2⟩:=bx hx3
   obtain ⟨τ4,hN⟩:=qR (k+10) hv μ2
   have e0:Ae (m.births+1)=m.births+1:=Ad (by unfold AV; omega)
   have q1:(0≤((2*j:Nat):Int)∧((2*j:Nat):Int)<((m.wds.length:Nat):Int))=True:=eq_true (by omega)
   have ew:Ae (((2*j:Nat):Int)+1)=((2*j+1:Nat):Int):=Ad (by unfold AV; omega)
   have q2:(0≤((2*j+1:Nat):Int)∧((2*j+1:Nat):Int)<((m.wds.length:Nat):Int))=True:=eq_true (by omega)
   obtain ⟨e4,hh4⟩:=(hh2.app τ4).Gn (a:=2*j) (by show 2*j<m.wds.length; omega) (m.births+1) (by unfold AV; omega)
   obtain ⟨μ4,hμ4⟩:∃ μ4,(μ2++τ4).set i.wd (.cells (CN (m.wds.set (2*j) (m.births+1))) DM true)=μ4:=⟨_,rfl⟩
   simp only at e4 hh4
   rw[hμ4] at e4 hh4
   obtain ⟨e5,hh5⟩:=hh4.Gn (a:=2*j+1) (by simp; omega) (num r d c) (PG hv).2.2.2
   simp only at e5 hh5
   obtain ⟨μ5,hμ5⟩:∃ μ5,μ4.set i.wd (.cells (CN ((m.wds.set (2*j) (m.births+1)).set (2*j+1) (num r d c))) DM true)=μ5:=⟨_,rfl⟩
   rw[hμ5] at e5 hh5
   obtain ⟨τ6,hS⟩:=nz (k+2) hh5.st (j:=j) (v:=1) hj (by decide)
   have t1:((2*j:Nat):Int).tdiv 2=(j:Int):=by
    rw[show ((2*j:Nat):Int).tdiv 2=(((2*j)/2:Nat):Int) from rfl]; omega
   have e6:Ae (j:Int)=(j:Int):=Ad (by unfold AV; omega)
   have hh6:=(hh5.app τ6).vv j 1
   simp only at hS hh6
   obtain ⟨μ6,hμ6⟩:∃ μ6,(μ5++τ6).set i.sw (.cells (rowOf (Il 1 m.stw j 1)) Cc true)=μ6:=⟨_,rfl⟩
   rw[hμ6] at hS hh6
   have hh7:=hh6.vu (SI (m.births+1) ((2*j:Nat):Int) m.pl)
   simp only at hh7
   have k4:BZ i μ2 μ4:=hμ4 ▸ (BZ.app i μ2 τ4).trans (BZ.set _ _ (by simp[CU.l]))
   have k5:BZ i μ4 μ5:=hμ5 ▸ BZ.set _ _ (by simp[CU.l])
   have k6:BZ i μ5 μ6:=hμ6 ▸ (BZ.app i μ5 τ6).trans (BZ.set _ _ (by simp[CU.l]))
   unfold CC
   rw[hv,if_pos rfl,if_pos hc,show ((2*j:Nat):Int).toNat/2=j from by omega]
   refine ⟨μ6.set i.pl (.map (Pq (SI (m.births+1) ((2*j:Nat):Int) m.pl))), ?_,hh7,((((k0.trans k1).trans k2).trans k4).trans k5).trans (k6.trans (BZ.set _ _ (by simp[CU.l])))⟩
   simp only[hc,bne_self_eq_false,cond_false,hh1.vr,Option.bind_some,e0,e2,hh2.HA,hh2.vr,d0,d1,d2,hN]
   simp only[Am,Option.bind_some,ew,Nat.zero_add,Nat.mul_one,Int.toNat_natCast]
   rw[if_pos (by omega)]
   simp only[e4,Option.bind_some]
   rw[if_pos (by omega)]
   have hS':CS (k+11) (some ⟨i.st,0,none⟩) (j:Int) 1 μ5=some (.int .i64 0,μ6):=hS
   simp only[e5,Option.bind_some,hh5.kP,t1,e6,show ((2:Int)=0)=False from by simp,if_false,hS',Am,hh6.xv,hh6.vr,S9,hh6.pl,jf,hh7.vr]
def SZ (l:List Int) (a:Nat) (v:List Int):List Int:=l.take a++v++l.drop (a+v.length)
theorem Qz {l:List Int} {a:Nat} {v:List Int} (h:a+v.length≤l.length):(SZ l a v).length=l.length:=by
 simp[SZ]; omega
theorem KU {l:List Int} {a:Nat} {v:List Int} (h:a+v.length≤l.length) (x:Nat):(SZ l a v).getD x 0=if a≤x∧x<a+v.length then v.getD (x-a) 0 else l.getD x 0:=by
 simp only[SZ,List.getD_eq_getElem?_getD]
 have ha:(l.take a).length=a:=by simp; omega
 rcases Nat.lt_or_ge x a with h1 | h1
 ·rw[List.append_assoc,List.getElem?_append_left (by rw[ha]; exact h1),List.getElem?_take,if_pos h1,if_neg (by omega)]
 ·rcases Nat.lt_or_ge x (a+v.length) with h2 | h2
  ·rw[List.append_assoc,List.getElem?_append_right (by rw[ha]; exact h1),ha,List.getElem?_append_left (by omega),if_pos ⟨h1,h2⟩]
  ·rw[List.getElem?_append_right (by simp; omega),if_neg (by omega),List.getElem?_drop]
   congr 2
   simp; omega
theorem qK (l:List Int) (a:Nat) (v:List Int):CN (SZ l a v)=AN (CN l) a (CN v):=by
 simp[SZ,CN,AN,List.map_take,List.map_drop]
theorem m8 (n:Nat):rep n [Value.int .i64 0]=CN (List.replicate n 0):=by
 simp only[rep,CN,List.map_replicate]
 induction n with
 | zero=>rfl
 | succ n ih=>rw[List.replicate_succ,List.flatten_cons,ih,List.replicate_succ]; rfl
theorem mR (h:Ah σ i m) {a b:Nat} (hab:a<b) (hb:b≤m.wds.length):
  Md AP 1 (some ⟨i.wd,0,none⟩,m.wds.length,m.wds.length) (some (.int .i64 (a:Int))) (some (.int .i64 (b:Int))) none σ=some (some ⟨i.wd,a,none⟩,b-a,m.wds.length-a):=by
 have e1:elemAt σ i.wd=some 3:=by simp only[elemAt,h.wd]
 have c1:(0≤(b:Int)∧(b:Int)≤((m.wds.length:Nat):Int)):=by omega
 have c2:(0≤(a:Int)∧(a:Int)≤((b:Nat):Int)):=by omega
 simp only[Md,Option.isSome_none,Bool.not_false,Bool.true_or,cond_true,bound,Int.toNat_natCast]
 rw[if_pos c1,if_pos c2,if_neg (by omega)]
 simp[e1]
theorem vd (k:Nat) (h:Ah σ i m) {a n:Nat} (hn:0<n) (ha:a+n≤m.wds.length):
  GG (k+1) (BN i) (a:Int) (n:Int) σ=some (.tuple #[],σ.set i.wd (.cells (CN (SZ m.wds a (List.replicate n 0))) DM true)) ∧
  Ah (σ.set i.wd (.cells (CN (SZ m.wds a (List.replicate n 0))) DM true)) i { m with wds:=SZ m.wds a (List.replicate n 0) }:=by
 have ht:=h.nt
 have hw:=h.wl
 refine ⟨?_,h.vw _ (Qz (by simpa using ha)) fun x=>?_⟩
 ·rw[QX,P2]
  have e1:Ae ((a:Int)+(n:Int))=((a+n:Nat):Int):=Ad (by unfold AV; omega)
  simp only[Option.bind_some,Nat.zero_add,h.HA,e1,mR h (show a<a+n by omega) ha]
  rw[if_neg (by omega)]
  rw[show a+n-a=n from by omega]
  simp only[Option.bind_some,Ip,h.wd,m8,GW,List.length_replicate,ha,if_true,qK]
 ·rw[KU (by simpa using ha)]
  split
  ·rw[List.getD_eq_getElem?_getD,List.getElem?_replicate]
   split <;> (unfold AV; decide)
  ·exact h.wi x
def Ni (m:HM) (j:Nat):HM:=
 { m with wds:=SZ m.wds (2*j) (List.replicate (sz m j) 0),stw:=Il 1 m.stw j 0,pnw:=Il 1 m.pnw j 0,pl:=bC (m.wds.getD (2*j) 0) m.pl }
theorem SO {j j':Nat} (hl:32*m.bls.length≤64*m.stw.length) (hj:j<32*m.bls.length):Start (Ni m j) j'↔j'≠j∧Start m j':=by
 unfold Start Ni
 simp only
 by_cases hq:j'=j
 ·subst hq
  rw[Gg (.inl rfl) (by decide) (by omega)]
  simp
 ·rw[C6 (.inl rfl) (by decide) (fun e=>hq e.symm)]
  simp[hq]
theorem Inv.kill (h:Inv m) (hl:32*m.bls.length≤64*m.stw.length) {j:Nat} (hs:Start m j):Inv (Ni m j):=by
 have hj:=hs.1
 have hf:=h.fit j hs
 have hst:=fun j'=>SO (m:=m) (j:=j) (j':=j') hl hj
 have hz:=h.size hs
 have wl:(Ni m j).wds.length=m.wds.length:=Qz (by simpa using hf)
 have wo:∀ j',j'≠j→Start m j' → ∀ c,c<2→(Ni m j).wds.getD (2*j'+c) 0=m.wds.getD (2*j'+c) 0:=by
  intro j' hne hs' c hc
  have hz':=h.size hs'
  show (SZ _ _ _).getD _ 0=_
  rw[KU (by simpa using hf),if_neg]
  rintro ⟨p1,p2⟩
  simp only[List.length_replicate] at p2
  rcases Nat.lt_trichotomy j j' with hlt | rfl | hlt
  ·have:=h.apart j j' hs hs' hlt; omega
  ·exact hne rfl
  ·have:=h.apart j' j hs' hs hlt; omega
 have wo0:∀ j',j'≠j→Start m j'→(Ni m j).wds.getD (2*j') 0=m.wds.getD (2*j') 0:=fun j' hne hs'=>wo j' hne hs' 0 (by decide)
 have so:∀ j',j'≠j→Start m j'→sz (Ni m j) j'=sz m j':=fun j' hne hs'=>by unfold sz; rw[wo j' hne hs' 1 (by decide)]
 have hpl:∀ x,getM (Ni m j).pl x=if x=m.wds.getD (2*j) 0 then none else getM m.pl x:=fun x=>Xo _ _ _ h.onc
 refine ⟨fun j' hs'=>?_,fun j' hs'=>?_,fun j1 j2 h1 h2 hlt=>?_,fun j' hs'=>?_,fun id a hg=>?_,h.brt,mc _ _ h.onc⟩
 ·obtain ⟨hne,hs'⟩:=(hst j').1 hs'
  obtain ⟨r,d,k,hv,hn⟩:=h.good j' hs'
  exact ⟨r,d,k,hv,by rw[wo j' hne hs' 1 (by decide)]; exact hn⟩
 ·obtain ⟨hne,hs'⟩:=(hst j').1 hs'
  rw[wl,so j' hne hs']; exact h.fit j' hs'
 ·obtain ⟨hne1,h1'⟩:=(hst j1).1 h1
  obtain ⟨hne2,h2'⟩:=(hst j2).1 h2
  rw[so j1 hne1 h1']; exact h.apart j1 j2 h1' h2' hlt
 ·obtain ⟨hne,hs'⟩:=(hst j').1 hs'
  obtain ⟨i1,i2,i3⟩:=h.idn j' hs'
  rw[wo0 j' hne hs',hpl]
  refine ⟨i1,i2, ?_⟩
  rw[if_neg]
  ·exact i3
  ·intro e
   rw[e,(h.idn j hs).2.2] at i3
   simp at i3
   omega
 ·rw[hpl] at hg
  split at hg
  ·cases hg
  ·rename_i hne
   obtain ⟨j',rfl,hs',he⟩:=h.plc id a hg
   have hjj:j'≠j:=fun e=>hne (by rw[← he,e])
   exact ⟨j',rfl,(hst j').2 ⟨hjj,hs'⟩,by rw[wo0 j' hjj hs']; exact he⟩
def Rh (m:HM) (a:Int):Int × HM:=if I0 m a then (0,Ni m (a.toNat/2)) else (4,m)
theorem pW (k:Nat) (h:Ah σ i m) (hI:Inv m) (a:Int) (ha:AV a):TD (Ed (k+12) (BN i) a σ) σ i (Rh m a):=by
 have ht:=h.nt
 have hw:=h.wl
 rw[QT,Py]
 simp only[U9 _ h a ha,Option.bind_some,Am]
 cases hh:I0 m a with
 | false=>exact TD.same h [] (code:=4) (by simp) (by simp[Rh,hh])
 | true=>
   obtain ⟨j,rfl,hs⟩:=IA hh
   have hr:Rh m ((2*j:Nat):Int)=(0,Ni m j):=by unfold Rh; rw[hh,if_pos rfl,show ((2*j:Nat):Int).toNat/2=j from by omega]
   rw[hr]
   have hj:=hs.1
   have hf:=hI.fit j hs
   have hz:=hI.size hs
   have t1:((2*j:Nat):Int).tdiv 2=(j:Int):=by
    rw[show ((2*j:Nat):Int).tdiv 2=(((2*j)/2:Nat):Int) from rfl]; omega
   have e1:Ae (j:Int)=(j:Int):=Ad (by unfold AV; omega)
   have h1:=h.vu (bC (m.wds.getD (2*j) 0) m.pl)
   obtain ⟨μ1,hμ1⟩:∃ μ1,σ.set i.pl (.map (Pq (bC (m.wds.getD (2*j) 0) m.pl)))=μ1:=⟨_,rfl⟩
   rw[hμ1] at h1
   obtain ⟨τ2,hS2⟩:=nz (k+2) h1.st (j:=j) (v:=0) hj (by decide)
   have h2:=(h1.app τ2).vv j 0
   simp only at hS2 h2
   obtain ⟨μ2,hμ2⟩:∃ μ2,(μ1++τ2).set i.sw (.cells (rowOf (Il 1 m.stw j 0)) Cc true)=μ2:=⟨_,rfl⟩
   rw[hμ2] at hS2 h2
   obtain ⟨τ3,hS3⟩:=nz (k+2) h2.pn (j:=j) (v:=0) hj (by decide)
   have h3:=(h2.app τ3).xh j 0
   simp only at hS3 h3
   obtain ⟨μ3,hμ3⟩:∃ μ3,(μ2++τ3).set i.pw (.cells (rowOf (Il 1 m.pnw j 0)) Cc true)=μ3:=⟨_,rfl⟩
   rw[hμ3] at hS3 h3
   obtain ⟨τ4,hZ⟩:=aE (k+8) h3 hj
   have hZ':BL (k+11) (BN i) ((2*j:Nat):Int) μ3=some (.int .i64 (sz m j:Int),μ3++τ4):=hZ
   obtain ⟨hWp,h5⟩:=vd (k+10) (h3.app τ4) (a:=2*j) (n:=sz m j) (by omega) hf
   simp only at hWp h5
   have k1:BZ i σ μ1:=hμ1 ▸ BZ.set _ _ (by simp[CU.l])
   have k2:BZ i μ1 μ2:=hμ2 ▸ (BZ.app i μ1 τ2).trans (BZ.set _ _ (by simp[CU.l]))
   have k3:BZ i μ2 μ3:=hμ3 ▸ (BZ.app i μ2 τ3).trans (BZ.set _ _ (by simp[CU.l]))
   refine ⟨_, ?_,h5,((k1.trans k2).trans k3).trans ((BZ.app i μ3 τ4).trans (BZ.set _ _ (by simp[CU.l])))⟩
   have q1:(0≤((2*j:Nat):Int)∧((2*j:Nat):Int)<((m.wds.length:Nat):Int)):=by omega
   simp only[if_true,bne_self_eq_false,cond_false,Nat.zero_add,h.xv,h.HA,Option.bind_some]
   rw[if_pos q1]
   have hS2':CS (k+11) (some ⟨i.st,0,none⟩) (j:Int) 0 μ1=some (.int .i64 0,μ2):=hS2
   have hS3':CS (k+11) (some ⟨i.pn,0,none⟩) (j:Int) 0 μ2=some (.int .i64 0,μ3):=hS3
   simp only[Option.bind_some,Nat.zero_add,Nat.mul_one,Int.toNat_natCast,h.qO (show 2*j<m.wds.length by omega),bL,S9,h.pl,jd,mV,hμ1,h1.kP,show ((2:Int)=0)=False from by simp,if_false,t1,e1,hS2',Am,h2.uE,hS3',hZ',hWp,KE]
end Go.Proofs.YtlaplcglpnlieaaGreat
end
