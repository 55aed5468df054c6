/- What the calls that change a heap come to (first part): the parts of a heap turned one by one; fields.; What the calls that change a heap come to (sec -/
import Derived.Test.YtjbledomkmdkmaaGreatP18
set_option linter.unusedVariables false
set_option linter.unusedSimpArgs false
set_option linter.unusedSectionVars false
namespace Go.Proofs.YtjbledomkmdkmaaGreat
open Go Go.AX
noncomputable section
local instance xP:AA:=Ap
section
variable {J:Aa} {i:Cd} {m:HM}
theorem Cd.ne (h:i.l.Nodup):i.hb≠i.bl/\i.hb≠i.wd/\i.hb≠i.st/\i.hb≠i.sw/\i.hb≠i.pn/\i.hb≠i.pw/\i.hb≠i.pl/\i.hb≠i.fw /\
  i.bl≠i.wd/\i.bl≠i.st/\i.bl≠i.sw/\i.bl≠i.pn/\i.bl≠i.pw/\i.bl≠i.pl/\i.bl≠i.fw /\
  i.wd≠i.st/\i.wd≠i.sw/\i.wd≠i.pn/\i.wd≠i.pw/\i.wd≠i.pl/\i.wd≠i.fw /\
  i.st≠i.sw/\i.st≠i.pn/\i.st≠i.pw/\i.st≠i.pl/\i.st≠i.fw/\i.sw≠i.pn/\i.sw≠i.pw/\i.sw≠i.pl/\i.sw≠i.fw /\
  i.pn≠i.pw/\i.pn≠i.pl/\i.pn≠i.fw/\i.pw≠i.pl/\i.pw≠i.fw/\i.pl≠i.fw:=by
 simp[Cd.l,and_assoc] at h;simp only[ne_eq];exact h
theorem Ai.tH (h:Ai J i m) (l:List Int) (hl:l.length=m.wds.length) (hi:∀ a,AK (l.getD a 0)):Ai (J.set i.wd (.cells (AZ l) Da true)) i { m with wds:=l }:=by
 obtain ⟨n1,n2,n3,n4,n5,n6,n7,n8,n9,n10,n11,n12,n13,n14,n15,n16,n17,n18,n19,n20,n21,n22,n23,n24,n25,n26,n27,n28,n29,n30,n31,n32,n33,n34,n35,n36⟩:=Cd.ne h.nd;have g:∀ {j},j≠i.wd->(J.set i.wd (.cells (AZ l) Da true))[j]?=J[j]?:=fun hj=>yc (yW hj);exact ⟨by rw[g (by first | assumption | (apply yW; assumption)),h.hp]; simp only[hl],by rw[g (by first | assumption | (apply yW; assumption))]; exact h.bl,by rw[yo (Af h.wd)],h.st.same (g (by first | assumption | (apply yW; assumption))) (g (by first | assumption | (apply yW; assumption))),h.pn.same (g (by first | assumption | (apply yW; assumption))) (g (by first | assumption | (apply yW; assumption))),by rw[g (by first | assumption | (apply yW; assumption))]; exact h.pl,by rw[g (by first | assumption | (apply yW; assumption))]; exact h.fw,h.nb,h.nt,by rw[hl]; exact h.wl,h.nd,hi⟩
theorem Ai.kF (h:Ai J i m) (l:List (Int × Int)) (hl:l.length=m.bls.length):Ai (J.set i.bl (.cells (CB l) Fz true)) i { m with bls:=l }:=by
 obtain ⟨n1,n2,n3,n4,n5,n6,n7,n8,n9,n10,n11,n12,n13,n14,n15,n16,n17,n18,n19,n20,n21,n22,n23,n24,n25,n26,n27,n28,n29,n30,n31,n32,n33,n34,n35,n36⟩:=Cd.ne h.nd;have g:∀ {j},j≠i.bl->(J.set i.bl (.cells (CB l) Fz true))[j]?=J[j]?:=fun hj=>yc (yW hj);exact ⟨by rw[g (by first | assumption | (apply yW; assumption)),h.hp]; simp only[hl],by rw[yo (Af h.bl)],by rw[g (by first | assumption | (apply yW; assumption))]; exact h.wd,by rw[hl]; exact h.st.same (g (by first | assumption | (apply yW; assumption))) (g (by first | assumption | (apply yW; assumption))),by rw[hl]; exact h.pn.same (g (by first | assumption | (apply yW; assumption))) (g (by first | assumption | (apply yW; assumption))),by rw[g (by first | assumption | (apply yW; assumption))]; exact h.pl,by rw[g (by first | assumption | (apply yW; assumption))]; exact h.fw,by rw[hl]; exact h.nb,by rw[hl]; exact h.nt,by rw[hl]; exact h.wl,h.nd,h.wi⟩
theorem Ai.tG (h:Ai J i m) (j v:Nat):Ai (J.set i.sw (.cells (rowOf (Fm 1 m.stw j v)) Bq true)) i { m with stw:=Fm 1 m.stw j v }:=by
 obtain ⟨n1,n2,n3,n4,n5,n6,n7,n8,n9,n10,n11,n12,n13,n14,n15,n16,n17,n18,n19,n20,n21,n22,n23,n24,n25,n26,n27,n28,n29,n30,n31,n32,n33,n34,n35,n36⟩:=Cd.ne h.nd;have g:∀ {j'},j'≠i.sw->(J.set i.sw (.cells (rowOf (Fm 1 m.stw j v)) Bq true))[j']?=J[j']?:=fun hj=>yc (yW hj);exact ⟨by rw[g (by first | assumption | (apply yW; assumption)),h.hp],by rw[g (by first | assumption | (apply yW; assumption))]; exact h.bl,by rw[g (by first | assumption | (apply yW; assumption))]; exact h.wd,h.st.put (by first | assumption | (apply yW; assumption)) j v,h.pn.same (g (by first | assumption | (apply yW; assumption))) (g (by first | assumption | (apply yW; assumption))),by rw[g (by first | assumption | (apply yW; assumption))]; exact h.pl,by rw[g (by first | assumption | (apply yW; assumption))]; exact h.fw,h.nb,h.nt,h.wl,h.nd,h.wi⟩
theorem Ai.tF (h:Ai J i m) (j v:Nat):Ai (J.set i.pw (.cells (rowOf (Fm 1 m.pnw j v)) Bq true)) i { m with pnw:=Fm 1 m.pnw j v }:=by
 obtain ⟨n1,n2,n3,n4,n5,n6,n7,n8,n9,n10,n11,n12,n13,n14,n15,n16,n17,n18,n19,n20,n21,n22,n23,n24,n25,n26,n27,n28,n29,n30,n31,n32,n33,n34,n35,n36⟩:=Cd.ne h.nd;have g:∀ {j'},j'≠i.pw->(J.set i.pw (.cells (rowOf (Fm 1 m.pnw j v)) Bq true))[j']?=J[j']?:=fun hj=>yc (yW hj);exact ⟨by rw[g (by first | assumption | (apply yW; assumption)),h.hp],by rw[g (by first | assumption | (apply yW; assumption))]; exact h.bl,by rw[g (by first | assumption | (apply yW; assumption))]; exact h.wd,h.st.same (g (by first | assumption | (apply yW; assumption))) (g (by first | assumption | (apply yW; assumption))),h.pn.put (by first | assumption | (apply yW; assumption)) j v,by rw[g (by first | assumption | (apply yW; assumption))]; exact h.pl,by rw[g (by first | assumption | (apply yW; assumption))]; exact h.fw,h.nb,h.nt,h.wl,h.nd,h.wi⟩
theorem Ai.tE (h:Ai J i m) (l:List (Int × Int)):Ai (J.set i.pl (.map (Q0 l))) i { m with pl:=l }:=by
 obtain ⟨n1,n2,n3,n4,n5,n6,n7,n8,n9,n10,n11,n12,n13,n14,n15,n16,n17,n18,n19,n20,n21,n22,n23,n24,n25,n26,n27,n28,n29,n30,n31,n32,n33,n34,n35,n36⟩:=Cd.ne h.nd;have g:∀ {j},j≠i.pl->(J.set i.pl (.map (Q0 l)))[j]?=J[j]?:=fun hj=>yc (yW hj);exact ⟨by rw[g (by first | assumption | (apply yW; assumption)),h.hp],by rw[g (by first | assumption | (apply yW; assumption))]; exact h.bl,by rw[g (by first | assumption | (apply yW; assumption))]; exact h.wd,h.st.same (g (by first | assumption | (apply yW; assumption))) (g (by first | assumption | (apply yW; assumption))),h.pn.same (g (by first | assumption | (apply yW; assumption))) (g (by first | assumption | (apply yW; assumption))),by rw[yo (Af h.pl)],by rw[g (by first | assumption | (apply yW; assumption))]; exact h.fw,h.nb,h.nt,h.wl,h.nd,h.wi⟩
theorem Ai.xE (h:Ai J i m) (b:Int):∃ J',CT J i.hb 6 (.int .i64 b)=some J'/\Ai J' i { m with births:=b }/\Be i J J':=by
 obtain ⟨n1,n2,n3,n4,n5,n6,n7,n8,n9,n10,n11,n12,n13,n14,n15,n16,n17,n18,n19,n20,n21,n22,n23,n24,n25,n26,n27,n28,n29,n30,n31,n32,n33,n34,n35,n36⟩:=Cd.ne h.nd;simp only[CT,h.hp];refine ⟨_,rfl, ?_,Be.set J _ (by simp[Cd.l])⟩;have g:∀ {j o},j≠i.hb->(J.set i.hb o)[j]?=J[j]?:=fun hj=>yc (yW hj);exact ⟨by rw[yo (Af h.hp)]; rfl,by rw[g (by first | assumption | (apply yW; assumption))]; exact h.bl,by rw[g (by first | assumption | (apply yW; assumption))]; exact h.wd,h.st.same (g (by first | assumption | (apply yW; assumption))) (g (by first | assumption | (apply yW; assumption))),h.pn.same (g (by first | assumption | (apply yW; assumption))) (g (by first | assumption | (apply yW; assumption))),by rw[g (by first | assumption | (apply yW; assumption))]; exact h.pl,by rw[g (by first | assumption | (apply yW; assumption))]; exact h.fw,h.nb,h.nt,h.wl,h.nd,h.wi⟩
theorem aO (l:List Int) (a:Nat) (v:Int):AZ (l.set a v)=(AZ l).set a (.int .i64 v):=by simp[AZ,List.map_set]
theorem Ca (l:List Int) (a b:Nat) (v:Int):(l.set a v).getD b 0=if a=b/\a<l.length then v else l.getD b 0:=by
 simp only[yd,z8];split
 ·rename_i e; subst e;split
  ·rename_i h; simp[h]
  ·rename_i h; simp[h,zg (Adf h)]
 ·rename_i e; simp[e]
theorem Ai.CT (h:Ai J i m) {a:Nat} (ha:a<m.wds.length) (v:Int) (hv:AK v):AX.CT J i.wd a (.int .i64 v)=some (J.set i.wd (.cells (AZ (m.wds.set a v)) Da true))/\Ai (J.set i.wd (.cells (AZ (m.wds.set a v)) Da true)) i { m with wds:=m.wds.set a v }:=by
 refine ⟨?_,h.tH _ (by simp) fun b=>?_⟩
 ·simp only[AX.CT,h.wd,C8,ha,ye,aO]
 ·rw[Ca];split
  ·exact hv
  ·exact h.wi b
def B9 (m:HM) (a x:Int) (data:Bool):Int × Int:=
 if AU m a then
  let j:=a.toNat/2
  let first:=a+2+(if data then Av m j else 0)
  if 0<=x/\x<(if data then Bf m j else Av m j) then (first+x,0) else (0,1)
 else (0,4)
theorem YD (k:Nat) (h:Ai J i m) (hI:Inv m) (a x:Int) (ha:AK a) (data:Bool):∃ τ,Dx (k+6) (AM i) a x data J=some (.tuple #[.int .i64 (B9 m a x data).1,.int .i64 (B9 m a x data).2],J++τ):=by
 have hw:=h.wl;have ht:=h.nt;rw[Rr];simp only[MZ _ h a ha,AI,Ag];cases hh:AU m a with
 | false=>exact ⟨[],by simp[B9,hh]⟩
 | true=>
   obtain ⟨j,rfl,hs⟩:=Bd hh;obtain ⟨z1,z2,z3,z4,z5,z6⟩:=hI.size hs;have hj:=hs.1;have e1:Ar (((2*j:Nat):Int)+1)=((2*j+1:Nat):Int):=Ah (by unfold AK; omega);have e2:Ar (((2*j:Nat):Int)+2)=((2*j+2:Nat):Int):=Ah (by unfold AK; omega);obtain ⟨τ,hsh⟩:=Z7 (k+4) (m.wds.getD (2*j+1) 0) (h.wi _) J;simp only[ye,yr,By,IN,h.E6,e1,xQ,yH,AI];rw[yk (by omega)];simp only[AI,h.pD (show 2*j+1<m.wds.length by omega),hsh,HG,Ae];refine ⟨τ++[.cells [.int .i64 (Av m j),.int .i64 (Bf m j),.int .i64 ((m.wds.getD (2*j+1) 0).tdiv 4096)] Ad true], ?_⟩;have hst:∀ (Z:Aa) (x y z:Value) (u v w:Value) T,H2 (Z++[.cells [x,y,z] T true]) Z.length 0 [u,v,w]=some (Z++[.cells [u,v,w] T true]):=by
    intro Z x y z u v w T; simp[H2,AP]
   simp only[hst,AI,Bh,IN,yy,yB,Ag];rw[show ((m.wds.getD (2*j+1) 0).tmod 4096).tdiv 16=Bf m j from rfl,show (m.wds.getD (2*j+1) 0).tmod 16=Av m j from rfl];rw[ya];have ej:((2*j:Nat):Int).toNat/2=j:=by omega
   unfold B9;rw[hh];simp only[ye,ej,e2];have main:∀ (f0 many:Int),0<=many->many<=4000->0<=f0->f0<=5000 -> ∀ (Z:Aa),((bif decide (x<0) then some (true,Z) else some (decide (x>=many),Z)).bind fun r20=>bif r20.1 then (some (Value.tuple #[.int .i64 (0:Int),.int .i64 (1:Int)],r20.2)) else (some (.tuple #[.int .i64 (Ar (f0+x)),.int .i64 (0:Int)],r20.2))) =
     some (.tuple #[.int .i64 (if 0<=x/\x<many then (f0+x,(0:Int)) else (0,1)).1,.int .i64 (if 0<=x/\x<many then (f0+x,(0:Int)) else (0,1)).2],Z):=by
    intro f0 many h1 h2 h3 h4 Z;by_cases c1:x<0
    ·simp only[show decide (x<0)=true from by simpa using c1,IT,AI,show ¬ (0<=x/\x<many) from by omega,yq]
    ·by_cases c2:x<many
     ·simp only[show decide (x<0)=false from by simpa using c1,By,AI,show decide (x>=many)=false from by simp; omega,show (0<=x/\x<many) from by omega,Abg,ye];rw[Ah (by unfold AK; omega)]
     ·simp only[show decide (x<0)=false from by simpa using c1,By,AI,show decide (x>=many)=true from by simp; omega,IT,show ¬ (0<=x/\x<many) from by omega,yq]
   cases data with
   | false=>
     simp only[By,AI,ye,Vv,y8,yq,Int.add_zero];rw[main _ _ z4 (by omega) (by omega) (by omega)];rw[show ((2*j+2:Nat):Int)=((2*j:Nat):Int)+2 from by omega]
   | true=>
     have e3:Ar (((2*j+2:Nat):Int)+Av m j)=((2*j:Nat):Int)+2+Av m j:=by rw[Ah (by unfold AK; omega)]; omega
     simp only[IT,AI,ye,Vv,e3];rw[main _ _ z5 (by omega) (by omega) (by omega)]
theorem mf (h:Inv m) {a x:Int} {data:Bool} {w:Int} (hf:B9 m a x data=(w,0)):∃ j t:Nat,Start m j/\a=((2*j:Nat):Int)/\w=((2*j+2+t:Nat):Int)/\2+t<sz m j:=by
 unfold B9 at hf;split at hf
 ·rename_i hh;obtain ⟨j,rfl,hs⟩:=Bd hh;have ej:((2*j:Nat):Int).toNat/2=j:=by omega
  obtain ⟨z1,z2,z3,z4,z5,z6⟩:=h.size hs;simp only[ej] at hf;cases data with
  | false=>
    simp only[y8,yq] at hf;split at hf
    ·rename_i hc;have hw:=zC Prod.fst hf;simp only at hw;exact ⟨j,x.toNat,hs,rfl,by omega,by omega⟩
    ·have:=zC Prod.snd hf;simp at this
  | true=>
    simp only[ye] at hf;split at hf
    ·rename_i hc;have hw:=zC Prod.fst hf;simp only at hw;exact ⟨j,(Av m j+x).toNat,hs,rfl,by omega,by omega⟩
    ·have:=zC Prod.snd hf;simp at this
 ·have:=zC Prod.snd hf;simp at this
theorem Inv.sQ (h:Inv m) {j t:Nat} (hs:Start m j) (ht:2+t<sz m j) (v:Int):Inv { m with wds:=m.wds.set (2*j+2+t) v }:=by
 have hkey:∀ j',Start m j' -> ∀ c,c<2->(m.wds.set (2*j+2+t) v).getD (2*j'+c) 0=m.wds.getD (2*j'+c) 0:=by
  intro j' hs' c hc;rw[Ca,ym];rintro ⟨e,_⟩;have h1:=h.apart j j' hs hs';have hz:=h.size hs';rcases Aaa j j' with hlt | rfl | hlt
  ·have:=h1 hlt; omega
  ·omega
  ·omega
 have key0:∀ j',Start m j'->(m.wds.set (2*j+2+t) v).getD (2*j') 0=m.wds.getD (2*j') 0:=fun j' hs'=>hkey j' hs' 0 (by decide);have hsz:∀ j',Start m j'->sz { m with wds:=m.wds.set (2*j+2+t) v } j'=sz m j':=fun j' hs'=>by
  unfold sz; rw[hkey j' hs' 1 (by decide)]
 refine ⟨fun j' hs'=>?_,fun j' hs'=>?_,fun j1 j2 h1 h2 hlt=>?_,fun j' hs'=>?_,fun id a hg=>?_,h.brt,h.onc⟩
 ·obtain ⟨r,d,k,hv,hn⟩:=h.good j' hs';exact ⟨r,d,k,hv,by rw[hkey j' hs' 1 (by decide)]; exact hn⟩
 ·rw[hsz j' hs']; simpa using h.fit j' hs'
 ·rw[hsz j1 h1]; exact h.apart j1 j2 h1 h2 hlt
 ·have:=h.idn j' hs';rw[<- key0 j' hs'] at this;exact this
 ·obtain ⟨j',rfl,hs',he⟩:=h.plc id a hg;exact ⟨j',rfl,hs',(key0 j' hs').trans he⟩
end
section
variable {J:Aa} {i:Cd} {m:HM}
def LJ (mm:Option (Value × Aa)) (J:Aa) (i:Cd) (r:Int × HM):Prop:=
 ∃ J',mm=some (.int .i64 r.1,J')/\Ai J' i r.2/\Be i J J'
theorem LJ.same (h:Ai J i m) (τ:Aa) {code:Int} {mm:Option (Value × Aa)} (he:mm=some (.int .i64 code,J++τ)) {r:Int × HM} (hr:r=(code,m)):LJ mm J i r:=
 ⟨J++τ,by rw[hr]; exact he,by rw[hr]; exact h.app τ,Be.app i J τ⟩
theorem LJ.to {mm mm':Option (Value × Aa)} {r:Int × HM} (h:LJ mm J i r) (f:∀ J',mm=some (.int .i64 r.1,J')->mm'=some (.int .i64 r.1,J')):LJ mm' J i r:=by
 obtain ⟨J',e,g⟩:=h;exact ⟨J',f J' e,g⟩
def Gz (m:HM) (a:Nat) (v:Int):HM:={ m with wds:=m.wds.set a v }
theorem jy (h:Ai J i m) (hI:Inv m) (τ:Aa) {j t:Nat} (hs:Start m j) (ht:2+t<sz m j) (v:Int) (hv:AK v) {mm:Option (Value × Aa)}
  (he:mm=(AX.CT (J++τ) i.wd (2*j+2+t) (.int .i64 v)).bind fun s=>some (.int .i64 0,s)):LJ mm J i (0,Gz m (2*j+2+t) v):=by
 have hf:=hI.fit j hs;obtain ⟨e,h'⟩:=(h.app τ).CT (show 2*j+2+t<m.wds.length by omega) v hv;rw[e] at he;exact ⟨_,he,h',(Be.app i J τ).trans (Be.set _ _ (by simp[Cd.l]))⟩
def Cv (m:HM) (a x v:Int):Int × HM:=
 if (B9 m a x false).2=0 then (if v≠0/\AU m v=false then (1,m) else (0,Gz m (B9 m a x false).1.toNat v)) else ((B9 m a x false).2,m)
def gp (m:HM) (a x v:Int):Int × HM:=
 if (B9 m a x true).2=0 then (0,Gz m (B9 m a x true).1.toNat v) else ((B9 m a x true).2,m)
def Lv (m:HM) (a:Int) (v:Nat):Int × HM:=if AU m a then (0,{ m with pnw:=Fm 1 m.pnw (a.toNat/2) v }) else (4,m)
def tC (m:HM) (a v:Int):Int × HM:=
 if 0<=a/\a<(m.wds.length:Int) then (match YG m a.toNat with
  | none=>(4,m)
  | some j=>if ((2*j+2:Nat):Int)<=a/\a<((2*j+2:Nat):Int)+Av m j+Bf m j then (0,Gz m a.toNat v) else (4,m)) else (1,m)
theorem Rh (k:Nat) (h:Ai J i m) (hI:Inv m) (a x v:Int) (ha:AK a) (hv:AK v):LJ (CC (k+7) (AM i) a x v J) J i (Cv m a x v):=by
 unfold Cv;obtain ⟨τ,hf⟩:=YD k h hI a x ha false;rw[QC];simp only[hf,AI,Cp];generalize hfm:B9 m a x false=w at hf ⊢;obtain ⟨w,c⟩:=w;by_cases hc:c=0
 ·subst hc;obtain ⟨j,t,hs,rfl,rfl,ht⟩:=mf hI hfm;have hfit:=hI.fit j hs;have tail:LJ ((AM i).bind fun a7=>(AR (J++τ) a7.block (a7.off+1)).bind fun l8=>if 0<=((2*j+2+t:Nat):Int)/\((2*j+2+t:Nat):Int)<(l8.2.1:Nat) then l8.1.bind fun a9=>(AX.CT (J++τ) a9.block (a9.off+((2*j+2+t:Nat):Int).toNat*1) (.int .i64 v)).bind fun s10=>some (.int .i64 (0:Int),s10) else none) J i (0,Gz m (2*j+2+t) v):=by
   refine jy h hI τ hs ht v hv ?_;simp only[AI,IN,(h.app τ).E6];rw[yk (by omega)];simp only[AI,IN,xQ,yH]
  by_cases hv0:v=0
  ·subst hv0;simp only[yr,By,AI,ne_eq,Aah,false_and,yq,ye,xQ];exact tail
  ·have q:(v != 0)=true:=by simpa using hv0
   simp only[yr,By,q,IT,Rb (k+2) (h.app τ) v hv,AI,Ao];cases AU m v with
   | true=>
     simp only[yp,By,ye,Bool.true_eq_false,and_false,yq,xQ];exact tail
   | false=>exact LJ.same h τ rfl (by simp[hv0])
 ·have q:(c != 0)=true:=by simpa using hc
  simp only[q,IT];exact LJ.same h τ rfl (by simp[hc])
theorem Inv.pins (h:Inv m) (l:List (BitVec 64)):Inv { m with pnw:=l }:=⟨h.good,h.fit,h.apart,h.idn,h.plc,h.brt,h.onc⟩
theorem Inv.eU (h:Inv m) (l:List (Int × Int)):Inv { m with fw:=l }:=⟨h.good,h.fit,h.apart,h.idn,h.plc,h.brt,h.onc⟩
theorem pR (k:Nat) (h:Ai J i m) (a:Int) (ha:AK a) (v:Nat) (hv:v<2):LJ (IG (k+10) (AM i) a (v:Int) J) J i (Lv m a v):=by
 rw[Uc];simp only[MZ _ h a ha,AI,Ag];cases hh:AU m a with
 | false=>exact LJ.same h [] (code:=4) (by simp) (by simp[Lv,hh])
 | true=>
   obtain ⟨j,rfl,hs⟩:=Bd hh;have ej:((2*j:Nat):Int).toNat/2=j:=by omega
   unfold Lv;rw[hh,ej];have ht:=h.nt;have hj:=hs.1;have t1:((2*j:Nat):Int).tdiv 2=(j:Int):=by
    rw[show ((2*j:Nat):Int).tdiv 2=(((2*j)/2:Nat):Int) from rfl]; omega
   have e1:Ar (j:Int)=(j:Int):=Ah (by unfold AK; omega);obtain ⟨τ,hset⟩:=Yi k h.pn hj (show v<2 ^ 1 by omega);simp only[ye,yr,By,IN,h.ZJ,AI,t1,e1,show ((2:Int)=0)=False from by simp,yq,hset,Ag];exact ⟨_,rfl,(h.app τ).tF j v,(Be.app i J τ).trans (Be.set _ _ (by simp[Cd.l]))⟩
theorem ov (k:Nat) (h:Ai J i m) (a:Int) (ha:AK a):LJ (Ha (k+11) (AM i) a J) J i (Lv m a 1):=by
 refine (pR k h a ha 1 (by decide)).to fun J' e=>?_;rw[Ua];simp only[show (1:Int)=((1:Nat):Int) from rfl,e,AI,Ag]
def C9 (m:HM) (j:Nat) (n:Int):HM:=
 { m with wds:=(m.wds.set (2*j) (m.births+1)).set (2*j+1) n,stw:=Fm 1 m.stw j 1,pl:=NR (m.births+1) ((2*j:Nat):Int) m.pl,births:=m.births+1 }
theorem Is {n:Int} {j j':Nat} (hl:32*m.bls.length<=64*m.stw.length) (hj:j<32*m.bls.length):Start (C9 m j n) j'↔j'=j\/Start m j':=by
 unfold Start C9;simp only;by_cases hq:j'=j
 ·subst hq;simp only[true_or,iff_true];exact ⟨hj,Ew (.inl rfl) (by decide) (by omega)⟩
 ·rw[BO (.inl rfl) (by decide) (fun e=>hq e.symm)];simp[hq]
theorem Inv.place (h:Inv m) (hw:m.wds.length=64*m.bls.length) (hl:32*m.bls.length<=64*m.stw.length) {j:Nat} {r d k:Int} (hv:valid r d k=true) (hj:j<32*m.bls.length)
  (hfit:2*j+NH (num r d k)<=m.wds.length) (hap:∀ o,Start m o->2*o+sz m o<=2*j\/2*j+NH (num r d k)<=2*o):Inv (C9 m j (num r d k)):=by
 have hst:=fun j'=>Is (m:=m) (n:=num r d k) (j:=j) (j':=j') hl hj;have hnj:¬ Start m j:=fun hs=>by
  have h1:=hap j hs;have h2:=h.size hs;have h3:2<=NH (num r d k):=by
   rw[Jp hv];simp[valid] at hv;omega
  omega
 have w0:(C9 m j (num r d k)).wds.getD (2*j) 0=m.births+1:=by
  unfold C9; simp only;rw[Ca,ym (by omega),Ca,yk (by omega)]
 have w1:(C9 m j (num r d k)).wds.getD (2*j+1) 0=num r d k:=by
  unfold C9; simp only;rw[Ca,yk ⟨rfl,by simp; omega⟩]
 have wo:∀ j' c,j'≠j->c<2->(C9 m j (num r d k)).wds.getD (2*j'+c) 0=m.wds.getD (2*j'+c) 0:=by
  intro j' c hne hc;unfold C9; simp only;rw[Ca,ym (by omega),Ca,ym (by omega)]
 have s1:sz (C9 m j (num r d k)) j=NH (num r d k):=by unfold sz; rw[w1]
 have so:∀ j',j'≠j->sz (C9 m j (num r d k)) j'=sz m j':=fun j' hne=>by unfold sz; rw[wo j' 1 hne (by decide)]
 have wl:(C9 m j (num r d k)).wds.length=m.wds.length:=by simp[C9]
 have wo0:∀ j',j'≠j->(C9 m j (num r d k)).wds.getD (2*j') 0=m.wds.getD (2*j') 0:=fun j' hne=>wo j' 0 hne (by decide);have hpl:∀ x,getM (C9 m j (num r d k)).pl x=if x=m.births+1 then some ((2*j:Nat):Int) else getM m.pl x:=fun x=>N2 _ _ _ _
 have hne:∀ j',Start m j'->j'≠j:=fun j' hs e=>hnj (e ▸ hs);refine ⟨fun j' hs'=>?_,fun j' hs'=>?_,fun j1 j2 h1 h2 hlt=>?_,fun j' hs'=>?_,fun id a hg=>?_, ?_, ?_⟩
 ·rcases (hst j').1 hs' with rfl | hs'
  ·exact ⟨r,d,k,hv,w1⟩
  ·obtain ⟨r',d',k',hv',hn⟩:=h.good j' hs';exact ⟨r',d',k',hv',by rw[wo j' 1 (hne j' hs') (by decide)]; exact hn⟩
 ·rw[wl];rcases (hst j').1 hs' with rfl | hs'
  ·rw[s1]; exact hfit
  ·rw[so j' (hne j' hs')]; exact h.fit j' hs'
 ·rcases (hst j1).1 h1 with rfl | h1'
  ·rcases (hst j2).1 h2 with rfl | h2'
   ·omega
   ·rw[s1];have:=hap j2 h2';have:=h.size h2';omega
  ·rw[so j1 (hne j1 h1')];rcases (hst j2).1 h2 with rfl | h2'
   ·have:=hap j1 h1';omega
   ·exact h.apart j1 j2 h1' h2' hlt
 ·rw[hpl];rcases (hst j').1 hs' with rfl | hs'
  ·rw[w0];have:=h.brt;refine ⟨by omega,by show _<=m.births+1; omega,yk rfl⟩
  ·rw[wo0 j' (hne j' hs')];obtain ⟨i1,i2,i3⟩:=h.idn j' hs';refine ⟨i1,by show _<=m.births+1; omega, ?_⟩;rw[ym (by omega)]; exact i3
 ·rw[hpl] at hg;split at hg
  ·rename_i hid;cases hg;exact ⟨j,rfl,(hst j).2 (.inl rfl),by rw[w0,hid]⟩
  ·obtain ⟨j',rfl,hs',he⟩:=h.plc id a hg;exact ⟨j',rfl,(hst j').2 (.inr hs'),by rw[wo0 j' (hne j' hs')]; exact he⟩
 ·have:=h.brt;show 0<=m.births+1;omega
 ·exact RZ _ _ _ h.onc
theorem mJ (k:Nat) {r d c:Int} (hv:valid r d c=true) (J:Aa):∃ τ,JX (k+1) r d c J=some (.int .i64 (num r d c),J++τ):=by
 rw[VG];simp only[Ae,Bh,IN,yy,yB,AI,Ag];simp[valid] at hv;have e1:Ar (16*d)=16*d:=Ah (by unfold AK; omega);have e2:Ar (r+16*d)=r+16*d:=Ah (by unfold AK; omega);have e3:Ar (4096*c)=4096*c:=Ah (by unfold AK; omega);have e4:Ar (r+16*d+4096*c)=r+16*d+4096*c:=Ah (by unfold AK; omega);simp only[e1,e2,e3,e4,num];exact ⟨_,rfl⟩
theorem bI {l:List (BitVec 64)} {n:Nat} (h:l.length=(32*n*1+63)/64):32*n<=64*l.length:=by omega
def CF (m:HM) (a r d c:Int):Int × Int × HM:=
 if valid r d c then (if KO m a (NH (num r d c)) (-1)=0 then (m.births+1,0,C9 m (a.toNat/2) (num r d c)) else (0,KO m a (NH (num r d c)) (-1),m)) else (0,2,m)
theorem Ya (k:Nat) (hk:5000<=k) (h:Ai J i m) (hI:Inv m) (hb:m.births<1000000) (a r d c:Int) (ha:AK a):∃ J',Fa (k+12) (AM i) a r d c J=some (.tuple #[.int .i64 (CF m a r d c).1,.int .i64 (CF m a r d c).2.1],J')/\Ai J' i (CF m a r d c).2.2/\Be i J J':=by
 have ht:=h.nt;have hw:=h.wl;rw[Rp];simp only[Ae];obtain ⟨Z0_,hμ0⟩:∃ Z0_,J++[Au.cells [Value.int .i64 r,.int .i64 d,.int .i64 c] Ad true]=Z0_:=⟨_,rfl⟩;have h0:Ai Z0_ i m:=hμ0 ▸ h.app _;have k0:Be i J Z0_:=hμ0 ▸ Be.app i J _;have hbox:Z0_[J.length]?=some (Au.cells [Value.int .i64 r,.int .i64 d,.int .i64 c] Ad true):=by rw[<- hμ0]; simp
 have bx:∀ {Z:Aa},Z[J.length]?=some (Au.cells [Value.int .i64 r,.int .i64 d,.int .i64 c] Ad true)->Ak .i64 Z J.length 0=some r/\Ak .i64 Z J.length 1=some d/\Ak .i64 Z J.length 2=some c:=by
  intro Z hm; simp[Ak,D5,hm,Bn]
 have hnew:J.length ∉ i.l:=fun hm=>Aad _ (h.lt _ hm);have bk:∀ {Z Z':Aa},Be i Z Z'->Z[J.length]?=some (Au.cells [Value.int .i64 r,.int .i64 d,.int .i64 c] Ad true)->Z'[J.length]?=some (Au.cells [Value.int .i64 r,.int .i64 d,.int .i64 c] Ad true):=fun hk hm=>(hk.same _ (Af hm) hnew).trans hm;obtain ⟨τ1,hV⟩:=Ma (k+10) r d c Z0_;rw[hμ0];obtain ⟨b0,b1,b2⟩:=bx hbox;simp only[IM _ h0,AI,Ao,yp,By,IN,Nat.reduceAdd,b0,b1,b2,hV];cases hv:valid r d c with
 | false=>
   unfold CF;rw[hv];exact ⟨Z0_++τ1,by simp,h0.app _,k0.trans (Be.app i Z0_ τ1)⟩
 | true=>
   have hx1:=bk (Be.app i Z0_ τ1) hbox;obtain ⟨c0,c1,c2⟩:=bx hx1;obtain ⟨τ2,hW⟩:=OA (k+9) r d c (Z0_++τ1);have hwo:words r d c=((NH (num r d c):Nat):Int):=by
    rw[Jp hv]; unfold words; rw[hv]; simp only[IT];simp[valid] at hv;omega
   have hwl:=Wv (num r d c);have hw2:2<=NH (num r d c):=by
    rw[Jp hv];simp[valid] at hv;omega
   have h1:Ai (Z0_++τ1++τ2) i m:=(h0.app _).app _;obtain ⟨τ3,hF⟩:=sj k hk h1 a (NH (num r d c)) (-1) hw2 hwl;simp only[yp,By,c0,c1,c2,hW,AI,Ag,hwo,hF];obtain ⟨Z1_,hμ1⟩:∃ Z1_,Z0_++τ1++τ2++τ3=Z1_:=⟨_,rfl⟩;rw[hμ1];have hh1:Ai Z1_ i m:=hμ1 ▸ h1.app _;have k1:Be i Z0_ Z1_:=hμ1 ▸ (((Be.app i Z0_ τ1).trans (Be.app i _ τ2)).trans (Be.app i _ τ3));have hx2:=bk k1 hbox;by_cases hc:KO m a (NH (num r d c)) (-1)=0;rotate_left
   ·have q:(KO m a (NH (num r d c)) (-1) != 0)=true:=by simpa using hc
    simp only[q,IT];unfold CF;rw[hv,yk rfl,ym hc];exact ⟨Z1_,rfl,hh1,k0.trans k1⟩
   obtain ⟨j,rfl,hj,hfit,hap⟩:=hI.fits hw hwl hw2 hc;have hbrt:=hI.brt;obtain ⟨Z2_,e2,hh2,k2⟩:=hh1.xE (m.births+1);have hx3:=bk k2 hx2;obtain ⟨d0,d1,d2⟩:=bx hx3;obtain ⟨τ4,hN⟩:=mJ (k+10) hv Z2_;have e0:Ar (m.births+1)=m.births+1:=Ah (by unfold AK; omega);have q1:(0<=((2*j:Nat):Int)/\((2*j:Nat):Int)<((m.wds.length:Nat):Int))=True:=zl (by omega);have ew:Ar (((2*j:Nat):Int)+1)=((2*j+1:Nat):Int):=Ah (by unfold AK; omega);have q2:(0<=((2*j+1:Nat):Int)/\((2*j+1:Nat):Int)<((m.wds.length:Nat):Int))=True:=zl (by omega);obtain ⟨e4,hh4⟩:=(hh2.app τ4).CT (a:=2*j) (by show 2*j<m.wds.length; omega) (m.births+1) (by unfold AK; omega);obtain ⟨Z4_,hμ4⟩:∃ Z4_,(Z2_++τ4).set i.wd (.cells (AZ (m.wds.set (2*j) (m.births+1))) Da true)=Z4_:=⟨_,rfl⟩;simp only at e4 hh4;rw[hμ4] at e4 hh4;obtain ⟨e5,hh5⟩:=hh4.CT (a:=2*j+1) (by simp; omega) (num r d c) (Je hv).2.2.2;simp only at e5 hh5;obtain ⟨Z5_,hμ5⟩:∃ Z5_,Z4_.set i.wd (.cells (AZ ((m.wds.set (2*j) (m.births+1)).set (2*j+1) (num r d c))) Da true)=Z5_:=⟨_,rfl⟩;rw[hμ5] at e5 hh5;obtain ⟨τ6,hS⟩:=Yi (k+2) hh5.st (j:=j) (v:=1) hj (by decide);have t1:((2*j:Nat):Int).tdiv 2=(j:Int):=by
    rw[show ((2*j:Nat):Int).tdiv 2=(((2*j)/2:Nat):Int) from rfl]; omega
   have e6:Ar (j:Int)=(j:Int):=Ah (by unfold AK; omega);have hh6:=(hh5.app τ6).tG j 1;simp only at hS hh6;obtain ⟨Z6_,hμ6⟩:∃ Z6_,(Z5_++τ6).set i.sw (.cells (rowOf (Fm 1 m.stw j 1)) Bq true)=Z6_:=⟨_,rfl⟩;rw[hμ6] at hS hh6;have hh7:=hh6.tE (NR (m.births+1) ((2*j:Nat):Int) m.pl);simp only at hh7;have k4:Be i Z2_ Z4_:=hμ4 ▸ (Be.app i Z2_ τ4).trans (Be.set _ _ (by simp[Cd.l]));have k5:Be i Z4_ Z5_:=hμ5 ▸ Be.set _ _ (by simp[Cd.l]);have k6:Be i Z5_ Z6_:=hμ6 ▸ (Be.app i Z5_ τ6).trans (Be.set _ _ (by simp[Cd.l]));unfold CF;rw[hv,yk rfl,yk hc,show ((2*j:Nat):Int).toNat/2=j from by omega];refine ⟨Z6_.set i.pl (.map (Q0 (NR (m.births+1) ((2*j:Nat):Int) m.pl))), ?_,hh7,((((k0.trans k1).trans k2).trans k4).trans k5).trans (k6.trans (Be.set _ _ (by simp[Cd.l])))⟩;simp only[hc,yr,By,hh1.pz,AI,e0,e2,hh2.E6,hh2.pz,d0,d1,d2,hN];simp only[Ag,AI,ew,IN,yH,xQ];rw[yk (by omega)];simp only[e4,AI];rw[yk (by omega)];have hS':Bv (k+11) (some ⟨i.st,0,none⟩) (j:Int) 1 Z5_=some (.int .i64 0,Z6_):=hS;simp only[e5,AI,hh5.SE,t1,e6,show ((2:Int)=0)=False from by simp,yq,hS',Ag,hh6.ZV,hh6.pz,RS,hh6.pl,aU,hh7.pz]
def NA (l:List Int) (a:Nat) (v:List Int):List Int:=l.take a++v++l.drop (a+v.length)
theorem KQ {l:List Int} {a:Nat} {v:List Int} (h:a+v.length<=l.length):(NA l a v).length=l.length:=by
 simp[NA]; omega
theorem Jf {l:List Int} {a:Nat} {v:List Int} (h:a+v.length<=l.length) (x:Nat):(NA l a v).getD x 0=if a<=x/\x<a+v.length then v.getD (x-a) 0 else l.getD x 0:=by
 simp only[NA,yd];have ha:(l.take a).length=a:=by simp; omega
 rcases zL x a with h1 | h1
 ·rw[ya,AT (by rw[ha]; exact h1),zt,yk h1,ym (by omega)]
 ·rcases zL x (a+v.length) with h2 | h2
  ·rw[ya,yD (by rw[ha]; exact h1),ha,AT (by omega),yk ⟨h1,h2⟩]
  ·rw[yD (by simp; omega),ym (by omega),zs];congr 2;simp; omega
theorem mn (l:List Int) (a:Nat) (v:List Int):AZ (NA l a v)=AP (AZ l) a (AZ v):=by
 simp[NA,AZ,AP,List.map_take,List.map_drop]
theorem fX (n:Nat):rep n [Value.int .i64 0]=AZ (List.replicate n 0):=by
 simp only[rep,AZ,List.map_replicate]
 induction n with
 | zero=>rfl
 | succ n ih=>rw[zU,Ac9,ih,zU]; rfl
theorem gy (h:Ai J i m) {a b:Nat} (hab:a<b) (hb:b<=m.wds.length):
  F8 Aj 1 (some ⟨i.wd,0,none⟩,m.wds.length,m.wds.length) (some (.int .i64 (a:Int))) (some (.int .i64 (b:Int))) none J=some (some ⟨i.wd,a,none⟩,b-a,m.wds.length-a):=by
 have e1:elemAt J i.wd=some 3:=by simp only[elemAt,h.wd]
 have c1:(0<=(b:Int)/\(b:Int)<=((m.wds.length:Nat):Int)):=by omega
 have c2:(0<=(a:Int)/\(a:Int)<=(b:Int)):=by omega
 simp only[F8,Aab,yY,Acf,IT,bound,xQ];rw[yk c1,yk c2,ym (by omega)];simp[e1]
theorem tc (k:Nat) (h:Ai J i m) {a n:Nat} (hn:0<n) (ha:a+n<=m.wds.length):
  HO (k+1) (AM i) (a:Int) (n:Int) J=some (.tuple #[],J.set i.wd (.cells (AZ (NA m.wds a (List.replicate n 0))) Da true)) /\
  Ai (J.set i.wd (.cells (AZ (NA m.wds a (List.replicate n 0))) Da true)) i { m with wds:=NA m.wds a (List.replicate n 0) }:=by
 have ht:=h.nt;have hw:=h.wl;refine ⟨?_,h.tH _ (KQ (by simpa using ha)) fun x=>?_⟩
 ·rw[SW];have e1:Ar ((a:Int)+(n:Int))=((a+n:Nat):Int):=Ah (by unfold AK; omega);simp only[AI,IN,h.E6,e1,gy h (show a<a+n by omega) ha];rw[ym (by omega)];rw[show a+n-a=n from by omega];simp only[AI,H2,h.wd,fX,C8,zT,ha,ye,mn]
 ·rw[Jf (by simpa using ha)];split
  ·rw[yd,zM];split <;> (unfold AK; decide)
  ·exact h.wi x
def Ir (m:HM) (j:Nat):HM:=
 { m with wds:=NA m.wds (2*j) (List.replicate (sz m j) 0),stw:=Fm 1 m.stw j 0,pnw:=Fm 1 m.pnw j 0,pl:=VT (m.wds.getD (2*j) 0) m.pl }
theorem LU {j j':Nat} (hl:32*m.bls.length<=64*m.stw.length) (hj:j<32*m.bls.length):Start (Ir m j) j'↔j'≠j/\Start m j':=by
 unfold Start Ir;simp only;by_cases hq:j'=j
 ·subst hq;rw[Ew (.inl rfl) (by decide) (by omega)];simp
 ·rw[BO (.inl rfl) (by decide) (fun e=>hq e.symm)];simp[hq]
theorem Inv.kill (h:Inv m) (hl:32*m.bls.length<=64*m.stw.length) {j:Nat} (hs:Start m j):Inv (Ir m j):=by
 have hj:=hs.1;have hf:=h.fit j hs;have hst:=fun j'=>LU (m:=m) (j:=j) (j':=j') hl hj;have hz:=h.size hs;have wl:(Ir m j).wds.length=m.wds.length:=KQ (by simpa using hf);have wo:∀ j',j'≠j->Start m j' -> ∀ c,c<2->(Ir m j).wds.getD (2*j'+c) 0=m.wds.getD (2*j'+c) 0:=by
  intro j' hne hs' c hc;have hz':=h.size hs';show (NA _ _ _).getD _ 0=_;rw[Jf (by simpa using hf),ym];rintro ⟨p1,p2⟩;simp only[zT] at p2;rcases Aaa j j' with hlt | rfl | hlt
  ·have:=h.apart j j' hs hs' hlt; omega
  ·exact hne rfl
  ·have:=h.apart j' j hs' hs hlt; omega
 have wo0:∀ j',j'≠j->Start m j'->(Ir m j).wds.getD (2*j') 0=m.wds.getD (2*j') 0:=fun j' hne hs'=>wo j' hne hs' 0 (by decide);have so:∀ j',j'≠j->Start m j'->sz (Ir m j) j'=sz m j':=fun j' hne hs'=>by unfold sz; rw[wo j' hne hs' 1 (by decide)]
 have hpl:∀ x,getM (Ir m j).pl x=if x=m.wds.getD (2*j) 0 then none else getM m.pl x:=fun x=>RN _ _ _ h.onc
 refine ⟨fun j' hs'=>?_,fun j' hs'=>?_,fun j1 j2 h1 h2 hlt=>?_,fun j' hs'=>?_,fun id a hg=>?_,h.brt,fD _ _ h.onc⟩
 ·obtain ⟨hne,hs'⟩:=(hst j').1 hs';obtain ⟨r,d,k,hv,hn⟩:=h.good j' hs';exact ⟨r,d,k,hv,by rw[wo j' hne hs' 1 (by decide)]; exact hn⟩
 ·obtain ⟨hne,hs'⟩:=(hst j').1 hs';rw[wl,so j' hne hs']; exact h.fit j' hs'
 ·obtain ⟨hne1,h1'⟩:=(hst j1).1 h1;obtain ⟨hne2,h2'⟩:=(hst j2).1 h2;rw[so j1 hne1 h1']; exact h.apart j1 j2 h1' h2' hlt
 ·obtain ⟨hne,hs'⟩:=(hst j').1 hs';obtain ⟨i1,i2,i3⟩:=h.idn j' hs';rw[wo0 j' hne hs',hpl];refine ⟨i1,i2, ?_⟩;rw[ym]
  ·exact i3
  ·intro e;rw[e,(h.idn j hs).2.2] at i3;simp at i3;omega
 ·rw[hpl] at hg;split at hg
  ·cases hg
  ·rename_i hne;obtain ⟨j',rfl,hs',he⟩:=h.plc id a hg;have hjj:j'≠j:=fun e=>hne (by rw[<- he,e]);exact ⟨j',rfl,(hst j').2 ⟨hjj,hs'⟩,by rw[wo0 j' hjj hs']; exact he⟩
def Ig (m:HM) (a:Int):Int × HM:=if AU m a then (0,Ir m (a.toNat/2)) else (4,m)
theorem ao (k:Nat) (h:Ai J i m) (hI:Inv m) (a:Int) (ha:AK a):LJ (EI (k+12) (AM i) a J) J i (Ig m a):=by
 have ht:=h.nt;have hw:=h.wl;rw[SP];simp only[MZ _ h a ha,AI,Ag];cases hh:AU m a with
 | false=>exact LJ.same h [] (code:=4) (by simp) (by simp[Ig,hh])
 | true=>
   obtain ⟨j,rfl,hs⟩:=Bd hh;have hr:Ig m ((2*j:Nat):Int)=(0,Ir m j):=by unfold Ig; rw[hh,yk rfl,show ((2*j:Nat):Int).toNat/2=j from by omega]
   rw[hr];have hj:=hs.1;have hf:=hI.fit j hs;have hz:=hI.size hs;have t1:((2*j:Nat):Int).tdiv 2=(j:Int):=by
    rw[show ((2*j:Nat):Int).tdiv 2=(((2*j)/2:Nat):Int) from rfl]; omega
   have e1:Ar (j:Int)=(j:Int):=Ah (by unfold AK; omega);have h1:=h.tE (VT (m.wds.getD (2*j) 0) m.pl);obtain ⟨Z1_,hμ1⟩:∃ Z1_,J.set i.pl (.map (Q0 (VT (m.wds.getD (2*j) 0) m.pl)))=Z1_:=⟨_,rfl⟩;rw[hμ1] at h1;obtain ⟨τ2,hS2⟩:=Yi (k+2) h1.st (j:=j) (v:=0) hj (by decide);have h2:=(h1.app τ2).tG j 0;simp only at hS2 h2;obtain ⟨Z2_,hμ2⟩:∃ Z2_,(Z1_++τ2).set i.sw (.cells (rowOf (Fm 1 m.stw j 0)) Bq true)=Z2_:=⟨_,rfl⟩;rw[hμ2] at hS2 h2;obtain ⟨τ3,hS3⟩:=Yi (k+2) h2.pn (j:=j) (v:=0) hj (by decide);have h3:=(h2.app τ3).tF j 0;simp only at hS3 h3;obtain ⟨Z3_,hμ3⟩:∃ Z3_,(Z2_++τ3).set i.pw (.cells (rowOf (Fm 1 m.pnw j 0)) Bq true)=Z3_:=⟨_,rfl⟩;rw[hμ3] at hS3 h3;obtain ⟨τ4,hZ⟩:=cW (k+8) h3 hj;have hZ':Dn (k+11) (AM i) ((2*j:Nat):Int) Z3_=some (.int .i64 (sz m j:Int),Z3_++τ4):=hZ;obtain ⟨hWp,h5⟩:=tc (k+10) (h3.app τ4) (a:=2*j) (n:=sz m j) (by omega) hf;simp only at hWp h5;have k1:Be i J Z1_:=hμ1 ▸ Be.set _ _ (by simp[Cd.l]);have k2:Be i Z1_ Z2_:=hμ2 ▸ (Be.app i Z1_ τ2).trans (Be.set _ _ (by simp[Cd.l]));have k3:Be i Z2_ Z3_:=hμ3 ▸ (Be.app i Z2_ τ3).trans (Be.set _ _ (by simp[Cd.l]));refine ⟨_, ?_,h5,((k1.trans k2).trans k3).trans ((Be.app i Z3_ τ4).trans (Be.set _ _ (by simp[Cd.l])))⟩;have q1:(0<=((2*j:Nat):Int)/\((2*j:Nat):Int)<((m.wds.length:Nat):Int)):=by omega
   simp only[ye,yr,By,IN,h.ZV,h.E6,AI];rw[yk q1];have hS2':Bv (k+11) (some ⟨i.st,0,none⟩) (j:Int) 0 Z1_=some (.int .i64 0,Z2_):=hS2;have hS3':Bv (k+11) (some ⟨i.pn,0,none⟩) (j:Int) 0 Z2_=some (.int .i64 0,Z3_):=hS3;simp only[AI,IN,yH,xQ,h.pD (show 2*j<m.wds.length by omega),fj,RS,h.pl,aT,jt,hμ1,h1.SE,show ((2:Int)=0)=False from by simp,yq,t1,e1,hS2',Ag,h2.ZJ,hS3',hZ',hWp,Gs]
end
end
end Go.Proofs.YtjbledomkmdkmaaGreat
