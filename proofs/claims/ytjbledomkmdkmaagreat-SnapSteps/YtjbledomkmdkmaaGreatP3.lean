/- append, copy, clear, delete.; append.; All operations that may write, but calls.; Functions without stores only add to memory. -/
import Derived.Test.YtjbledomkmdkmaaGreatP2
set_option linter.unusedVariables false
set_option linter.unusedSimpArgs false
set_option linter.unusedSectionVars false
section
namespace Go.AX
open Go
variable {ρ:Type} {P:Program} [A9]
theorem Abu {need SB bytes:Nat} (h:SB<need) (hr:QG need bytes):¬ Builtin.nextslicecap need SB*bytes>2 ^ 48:=by
 have h1:=nextslicecap_le h
 have h2:Builtin.nextslicecap need SB*bytes≤2*need*bytes:=Nat.mul_le_mul_right _ h1
 have h3:2*need*bytes=2*(need*bytes):=Nat.mul_assoc _ _ _
 have:=hr.1
 omega
section
variable {t t' ty E E':TypeId} {s by_ n l c:Nat} {base:Option Addr} {x:Value} {new SB:Array Value} {w w':World}
theorem MA (ht:P.underlying t=some (.slice E)) (ht':P.underlying t'=some (.slice E')) (hs:IW P E=some s) (hlen:(Builtin.lenOf x).run P w = .ok n w)
  (hfit:l+n≤c) (hnew:(Builtin.firstCells s n x).run P w = .ok new w) (hst:(match base with | some a=>storeCells (a.add (l*s)) new.toList | none=>pure ()).run P w = .ok () w'):
  (Builtin.append_ #[t,t'] ty #[.slice base l c,x]).run P w = .ok (.slice base (l+n) c) w':=by
 cases base with
 | none=>
   simp only[Sem.run_pure] at hst
   cases hst
   simp[Builtin.append_,run_underlying ht,run_underlying ht',run_sizeOf hs,hlen,hfit,hnew]
 | some a=>
   simp only at hst
   simp[Builtin.append_,run_underlying ht,run_underlying ht',run_sizeOf hs,hlen,hfit,hnew,hst]
theorem run_append_grow (ht:P.underlying t=some (.slice E)) (ht':P.underlying t'=some (.slice E')) (hs:IW P E=some s) (hby:bytesOf P E=some by_) (hlen:(Builtin.lenOf x).run P w = .ok n w)
  (hfit:¬ l+n≤c) (hroom:QG (l+n) by_) (hb0:0<by_) (z:Value) (hz:FT P E=some z)
  (hold:(Builtin.firstCells s l (.slice base l c)).run P w.drew = .ok SB w.drew) (hnew:(Builtin.firstCells s n x).run P w.drew = .ok new w.drew):
  ∃ cap rest,l+n≤cap∧rest=Builtin.zeroCells z.cells (cap-(l+n)) ∧
   (Builtin.append_ #[t,t'] ty #[.slice base l c,x]).run P w = .ok (.slice (some ⟨w.heap.size,0,none⟩) (l+n) cap) (w.drew.alloc (.cells (SB++new++rest) E)):=by
 obtain ⟨hz1,hz2⟩:=MC hz w.drew
 have hcut:l+n≤grownCap w (l+n) c E:=by unfold grownCap; simp only[Question.cut]; omega
 refine ⟨_,_,hcut,rfl, ?_⟩
 unfold bytesOf at hby
 simp only[Option.map_eq_some_iff] at hby
 obtain ⟨i,hi,hib⟩:=hby
 have hrm:=Abu (SB:=c) (by omega) hroom
 rw[← hib] at hrm hb0
 have hb0':i.bytes≠0:=by omega
 have h48':¬ (281474976710656<Builtin.nextslicecap (l+n) c*i.bytes):=by omega
 have hty:∀ w,(typeInfo E).run P w = .ok i w:=fun w=>by simp[typeInfo,hi]
 simp[Builtin.append_,run_underlying ht,run_underlying ht',run_sizeOf hs,hlen,hfit,hty,hb0',h48',Question.forced,hold,hnew,hz1,newRow,grownCap]
end
theorem JG {μ:Mu} {σ:Aa} {w:World} (hR:R P μ σ w) {x:Option Addr} {l c m:Nat} {v':Value} (hv:RV μ (.slice x l c) v') {s:Nat} {new:List Value} (hm:m≤l) (h:Ds σ s x m=some new):
  ∃ new',KE μ new new'∧(Builtin.firstCells s m v').run P w = .ok new'.toArray w∧(Builtin.lenOf v').run P w = .ok l w∧(∀ v ∈ new,v.oneCell'=true)∧(x≠none→new.length=m*s):=by
 unfold Ds at h
 cases hv with
 | sliceNil=>
   have hm0:m=0:=by omega
   subst hm0
   simp at h
   subst h
   exact ⟨[],.nil,rfl,rfl,by simp,by simp⟩
 | @sliceZ a z y hz=>
   have hm0:m=0:=by omega
   subst hm0
   simp only[Nat.zero_mul] at h
   obtain ⟨hlen,hld⟩:=QC h
   have:new=[]:=List.eq_nil_of_length_eq_zero hlen
   subst this
   refine ⟨[],.nil, ?_,rfl,by simp,by simp⟩
   simp only[Builtin.firstCells,Nat.zero_mul]; rfl
 | @slice a k _ _ c' hk hsp hl hc hm'=>
   simp only at h
   obtain ⟨hlen,hld⟩:=QC h
   obtain ⟨vs',hr,hrun,hleaf⟩:=Nd hR hk hlen hld
   refine ⟨vs',hr, ?_,rfl,hleaf,fun _=>hlen⟩
   simp only[Builtin.firstCells]
   exact hrun
 | @sliceEnd a k o' c' hk hsp hm'=>
   have hm0:m=0:=by omega
   subst hm0
   simp only[Nat.zero_mul] at h
   obtain ⟨hlen,hld⟩:=QC h
   have:new=[]:=List.eq_nil_of_length_eq_zero hlen
   subst this
   refine ⟨[],.nil, ?_,rfl,by simp,by simp⟩
   simp only[Builtin.firstCells,Nat.zero_mul]; rfl
theorem ZN (cs:List Value) (o:Nat) (h:o≤cs.length):AL cs o []=cs:=by simp[AL]
theorem dh {σ:Aa} {b:Nat} {o:A6} (h:σ[b]?=some o):σ.set b o=σ:=by
 apply List.ext_getElem?
 intro i
 rw[List.getElem?_set]
 split
 ·rename_i he; subst he
  obtain ⟨h1,h2⟩:=List.getElem?_eq_some_iff.1 h
  simp[h1,h2]
 ·rfl
theorem wL {σ:Aa} {b:Nat} (h:Jg σ b=true):Ay σ b:=by
 unfold Jg at h
 unfold Ay
 split at h
 ·rename_i hb; subst h; rw[hb]; trivial
 ·rename_i hb; rw[hb]; trivial
 ·cases h
theorem bG {σ:Aa} {b:Nat} (h:Ay σ b):alive σ b:=by
 unfold Ay at h
 split at h
 ·rename_i hb; exact ⟨_,hb,by simp⟩
 ·rename_i hb; exact ⟨_,hb,by simp⟩
 ·rename_i hb; exact ⟨_,hb,by simp⟩
 ·cases h
theorem R.Aex {μ:Mu} {σ:Aa} {w:World} (hR:R P μ σ w) (hf:μ σ.length=none) {b:Nat} {k:kT} (hk:μ b=some k) {E:TypeId} {cs:List Value} (hb:σ[b]?=some (.cells cs E true)) {off l n c' s:Nat} (hs:k.s=s)
  {SB new new':List Value} (hold:ZA σ b off (l*s)=some SB∨(SB=[]∧l=0)) (hnew:KE μ new new') (hl:∀ v ∈ new,v.oneCell'=true) (hnl:new.length=n*s) (hfit:l+n≤c') (hm:off+c'*s≤k.m):
  ∃ w' μ',(storeCells ⟨k.b,k.o+off+l*s,none⟩ new').run P w = .ok () w'∧R P μ' (σ.set b .dead++[.cells (SB++new) E true]) w'∧Step μ σ w μ' (σ.set b .dead++[.cells (SB++new) E true]) w' ∧
   μ' σ.length=some ⟨k.b,k.o+off,s,(l+n)*s,c'*s⟩:=by
 obtain ⟨c,T',fz,hx,h1,h2,h3,h4,h5,h6,h7⟩:=hR.obj _ _ _ hb hk
 have hfz:=h5 rfl
 subst hfz
 have hvl:=hnew.length
 have hmul:(l+n)*s≤c'*s:=Nat.mul_le_mul_right _ hfit
 have hadd:(l+n)*s=l*s+n*s:=Nat.add_mul _ _ _
 have hrun:=run_storeCells_at P k.b (k.o+off+l*s) T' new' 0 c w hx (by omega) (hnew.leaf hl)
 have hbl:b<σ.length:=(List.getElem?_eq_some_iff.1 hb).1
 have hal:alive σ b:=⟨_,hb,by simp⟩
 have hwr:Ay σ b:=by unfold Ay; rw[hb]; trivial
 have e:(c.toList.take (k.o+off+l*s+0)++new'++c.toList.drop (k.o+off+l*s+0+new'.length)).toArray.toList=AL c.toList (k.o+off+l*s) new':=by simp[AL]
 have hlen:(AL c.toList (k.o+off+l*s) new').length=c.size:=by rw[Jf (by simp; omega)]; simp
 have hc:(w.setRow k.b (c.toList.take (k.o+off+l*s+0)++new'++c.toList.drop (k.o+off+l*s+0+new'.length)).toArray).heap[k.b]?=some (.cells _ T' (0,0)):=setRow_heap w k.b c _ T' _ hx
 have hother:∀ b',b'≠k.b→(w.setRow k.b (c.toList.take (k.o+off+l*s+0)++new'++c.toList.drop (k.o+off+l*s+0+new'.length)).toArray).heap[b']?=w.heap[b']?:=fun b' hb'=>setRow_other w k.b b' _ hb'
 generalize hw':w.setRow k.b (c.toList.take (k.o+off+l*s+0)++new'++c.toList.drop (k.o+off+l*s+0+new'.length)).toArray=w' at *
 have hsz:w'.heap.size=w.heap.size:=by rw[← hw']; exact size_setRow _ _ _
 have ht:w'.tape=w.tape:=by rw[← hw']; rfl
 have hos:w'.os=w.os:=by rw[← hw']; rfl
 have hout:w'.output=w.output:=by rw[← hw']; rfl
 have hle:μ.le (μ.put σ.length ⟨k.b,k.o+off,s,(l+n)*s,c'*s⟩):=Mu.Aef hf
 have hsl:(σ.set b .dead).length=σ.length:=by simp
 refine ⟨w',μ.put σ.length ⟨k.b,k.o+off,s,(l+n)*s,c'*s⟩,hrun,⟨?_, ?_, ?_⟩, ?_,Mu.FN _ _ _⟩
 ·intro x o kx hx' hkx
  by_cases hxl:x=σ.length
  ·subst hxl
   rw[Mu.FN] at hkx; cases hkx
   rw[List.getElem?_append_right (by omega),hsl,Nat.sub_self] at hx'
   simp only[List.getElem?_cons_zero,Option.some.injEq] at hx'
   subst hx'
   rw[hc]
   have hol:SB.length=l*s:=by
    rcases hold with h | ⟨rfl,rfl⟩
    ·exact (QC h).1
    ·simp
   refine ⟨_,T',(0,0),rfl,by rw[List.length_append,hol,hnl,hadd],hmul, ?_,by rw[← hs]; exact h4,fun _=>rfl, ?_, ?_⟩
   ·rw[← Array.length_toList,e,hlen]; simp only; omega
   ·intro v hv
    rcases List.mem_append.1 hv with hv | hv
    ·rcases hold with h | ⟨rfl,rfl⟩
     ·obtain ⟨j,hj,hjv⟩:=List.getElem_of_mem hv
      have:=(QC h).2 j v (by rw[List.getElem?_eq_getElem hj,hjv])
      obtain ⟨_,_,_,g⟩:=cell_of hR this hk
      exact g
     ·simp at hv
    ·exact hl v hv
   ·rw[e]
    refine KE.xU ?_ ?_
    ·rw[List.length_append,hol,hnl,List.length_take,List.length_drop,hlen]; simp only; omega
    ·intro i x x' hx1 hx2
     simp only at hx2
     have hi:i<(l+n)*s:=by
      have:=(List.getElem?_eq_some_iff.1 hx1).1
      rw[List.length_append,hol,hnl] at this; omega
     rw[List.getElem?_take,if_pos hi,List.getElem?_drop,UN (by simp; omega)] at hx2
     by_cases hil:i<l*s
     ·rw[List.getElem?_append_left (by omega)] at hx1
      rw[if_pos (by omega)] at hx2
      rcases hold with h | ⟨rfl,rfl⟩
      ·obtain ⟨y,hy,hr,_⟩:=cell_of hR ((QC h).2 i x hx1) hk
       simp only[World.cell?,hx] at hy
       have hy':c.toList[k.o+(off+i)]?=some y:=by simpa using hy
       rw[show k.o+off+i=k.o+(off+i) by omega,hy'] at hx2
       cases hx2
       exact hr.mono hle
      ·simp at hx1
     ·rw[List.getElem?_append_right (by omega),hol] at hx1
      rw[if_neg (by omega),if_pos (by omega),show k.o+off+i-(k.o+off+l*s)=i-l*s by omega] at hx2
      obtain ⟨y,hy,hr⟩:=hnew.get _ x hx1
      rw[hy] at hx2; cases hx2
      exact hr.mono hle
  ·rw[Mu.Gd μ _ hxl] at hkx
   have hxlt:x<σ.length:=by
    have:=(List.getElem?_eq_some_iff.1 hx').1
    simp at this; omega
   rw[List.getElem?_append_left (by omega)] at hx'
   by_cases hxb:x=b
   ·subst hxb
    rw[List.getElem?_set_self hbl] at hx'
    cases hx'; trivial
   ·rw[List.getElem?_set_ne (Ne.symm hxb)] at hx'
    by_cases hd:o = .dead
    ·subst hd; trivial
    ·have hne:kx.b≠k.b:=fun he=>hxb (hR.inj x b kx k hkx hk ⟨o,hx',hd⟩ hal (.inr hwr) he)
     rw[hother _ hne]
     exact (hR.obj x o kx hx' hkx).mono hle
 ·intro x kx hkx
  by_cases hxl:x=σ.length
  ·subst hxl; rw[Mu.FN] at hkx; cases hkx; rw[hsz]; exact hR.lt b k hk
  ·rw[Mu.Gd μ _ hxl] at hkx; rw[hsz]; exact hR.lt x kx hkx
 ·have hal':∀ x,x≠σ.length→alive (σ.set b .dead++[.cells (SB++new) E true]) x→alive σ x∧x≠b:=by
   intro x hxl ⟨o,ho,hd⟩
   have hxlt:x<σ.length:=by
    have:=(List.getElem?_eq_some_iff.1 ho).1
    simp at this; omega
   rw[List.getElem?_append_left (by omega)] at ho
   by_cases hxb:x=b
   ·subst hxb; rw[List.getElem?_set_self hbl] at ho; cases ho; exact absurd rfl hd
   ·rw[List.getElem?_set_ne (Ne.symm hxb)] at ho; exact ⟨⟨o,ho,hd⟩,hxb⟩
  have hwal:∀ x,x≠σ.length→x≠b→Ay (σ.set b .dead++[.cells (SB++new) E true]) x→Ay σ x:=by
   intro x hxl hxb hwx
   have hwx:=Su (by simpa using hxl) hwx
   unfold Ay at hwx ⊢
   rwa [List.getElem?_set_ne (Ne.symm hxb)] at hwx
  intro x y kx ky hx' hy' hax hay hww hxy
  by_cases hxl:x=σ.length <;> by_cases hyl:y=σ.length
  ·omega
  ·subst hxl; rw[Mu.FN] at hx'; cases hx'
   rw[Mu.Gd μ _ hyl] at hy'
   obtain ⟨g1,g2⟩:=hal' y hyl hay
   exact absurd (hR.inj y b ky k hy' hk g1 hal (.inr hwr) hxy.symm) g2
  ·subst hyl; rw[Mu.FN] at hy'; cases hy'
   rw[Mu.Gd μ _ hxl] at hx'
   obtain ⟨g1,g2⟩:=hal' x hxl hax
   exact absurd (hR.inj x b kx k hx' hk g1 hal (.inr hwr) hxy) g2
  ·rw[Mu.Gd μ _ hxl] at hx'
   rw[Mu.Gd μ _ hyl] at hy'
   exact hR.inj x y kx ky hx' hy' (hal' x hxl hax).1 (hal' y hyl hay).1 (hww.imp (hwal x hxl (hal' x hxl hax).2) (hwal y hyl (hal' y hyl hay).2)) hxy
 ·refine ⟨by simp, ?_, ?_, ?_,by omega,ht,hos,hout, ?_⟩
  ·intro x hx'; exact Mu.Gd μ _ (by simp at hx'; omega)
  ·intro x hx' hwx
   by_cases hxb:x=b
   ·subst hxb; exact hwr
   ·unfold Ay at hwx ⊢
    rwa [List.getElem?_append_left (by omega),List.getElem?_set_ne (Ne.symm hxb)] at hwx
  ·intro x kx hx1 hx2 hkx
   have:x=σ.length:=by simp at hx2; omega
   subst this
   rw[Mu.FN] at hkx; cases hkx
   exact .inr ⟨b,k,hbl,hk,rfl,hwr⟩
  ·intro b' hb' hn
   exact hother b' fun he=>hn b k hbl hk he.symm hwr
end Go.AX
end
section
namespace Go.AX
open Go
variable {ρ:Type} {P:Program} [A9]
theorem ur (z:Array Value) (n:Nat) (hz:0<z.size):(Builtin.zeroCells z n).toList=rep n z.toList:=XH z n hz
theorem vq {μ:Mu} {a:Option Addr} {l c:Nat} {d:Value} (hf:Is a=true) (h:RV μ (.slice a l c) d):l=0∧c=0 ∧ ∃ y,d = .slice y 0 0:=by
 cases h with
 | sliceNil=>exact ⟨rfl,rfl,_,rfl⟩
 | sliceZ y hz=>exact ⟨rfl,rfl,_,rfl⟩
 | slice hk hs _ _ _=>simp[Is,hs] at hf
 | sliceEnd hk hs _=>simp[Is,hs] at hf
theorem vE {a:Option Addr} (h:Is a=false):∃ a0,a=some a0∧a0.spot=none:=by
 cases a with
 | none=>cases h
 | some a=>cases hs:a.spot with
   | none=>exact ⟨a,rfl,hs⟩
   | some z=>simp[Is,hs] at h
theorem xh {E:TypeId} {t t' E' ty:TypeId} {a a':Option Addr} {l c l' c':Nat} {σ:Aa} {K:Value→Aa→Option ρ} {r:ρ} (ht:P.underlying t=some (.slice E)) (ht':P.underlying t'=some (.slice E'))
  (h:Qf P E (a,l,c) (a',l',c') σ K=some r):∃ v σ',K v σ'=some r∧σ.length≤σ'.length ∧
   ∀ (μ:Mu) (w:World) (d x:Value),R P μ σ w→Ia μ σ.length σ'.length→RV μ (.slice a l c) d→RV μ (.slice a' l' c') x →
    ∃ μ' v' w',(Builtin.append_ #[t,t'] ty #[d,x]).run P w = .ok v' w'∧RV μ' v v'∧R P μ' σ' w'∧Step μ σ w μ' σ' w':=by
 unfold Qf at h
 simp only[Option.bind_eq_some_iff] at h
 obtain ⟨s,hs,by_,hby,new,hnew,z,hz,h⟩:=h
 split at h
 ·cases h
 rename_i hzz
 have hzz:Hb z=false∧IW P E=some z.cells.size∧0<z.cells.size:=Classical.not_not.1 hzz
 obtain ⟨hzt,hzs,hz0⟩:=hzz
 rw[hs] at hzs
 cases hzs
 split at h
 ·rename_i hfit
  cases hfx:Is a with
  | true=>
    rw[hfx] at h
    simp only[cond_true] at h
    split at h
    ·rename_i hn0
     refine ⟨_,σ,h,Nat.le_refl _,fun μ w d x hR hfr hd hx=>?_⟩
     obtain ⟨new',h1,h2,h3,h4,h5⟩:=JG hR hx (Nat.le_refl _) hnew
     have hl'0:l'=0:=by omega
     have hl0:l=0:=by omega
     subst hl'0; subst hl0
     have hnil:new'=[]:=by
      cases a' with
      | none=>simp[Ds] at hnew; subst hnew; cases h1; rfl
      | some a'=>
        have:=h5 (by simp)
        simp at this; subst this; cases h1; rfl
     subst hnil
     obtain ⟨_,rfl,y,rfl⟩:=vq hfx hd
     refine ⟨μ,.slice y (0+0) 0,w,MA ht ht' hs h3 (by omega) h2 ?_,hd,hR,Step.refl _ _ _⟩
     cases y <;> simp[storeCells]
    ·cases h
  | false=>
    rw[hfx] at h
    obtain ⟨a0,rfl,hsp0⟩:=vE hfx
    simp only[cond_false,Option.bind_eq_some_iff,Option.some.injEq,exists_eq_left'] at h
    obtain ⟨σ',hst,h⟩:=h
    obtain ⟨cs,T,hb,hlen,rfl⟩:=YV hst
    refine ⟨_,_,h,by simp,fun μ w d x hR hfr hd hx=>?_⟩
    obtain ⟨new',h1,h2,h3,h4,h5⟩:=JG hR hx (Nat.le_refl _) hnew
    cases hd with
    | @slice _ k _ _ c2 hk hsp hl hc hm=>
      obtain ⟨w',hrun,hR',hS⟩:=OE hR hk hb h1 h4 hlen
      refine ⟨μ,_,w',MA ht ht' hs h3 (Nat.le_trans hfit hc) h2 ?_,.slice hk hsp hfit hc hm,hR',hS⟩
      simp only[NM,← Nat.add_assoc] at hrun ⊢
      exact hrun
    | @sliceEnd _ k o' c2 hk hsp hm=>
      have hl'0:l'=0:=by omega
      subst hl'0
      have hnew0:new=[]∧new'=[]:=by
       cases a' with
       | none=>simp[Ds] at hnew; subst hnew; cases h1; exact ⟨rfl,rfl⟩
       | some a'=>
         have:=h5 (by simp)
         simp at this; subst this; cases h1; exact ⟨rfl,rfl⟩
      obtain ⟨rfl,rfl⟩:=hnew0
      rw[ZN _ _ (by simpa using hlen),dh hb]
      refine ⟨μ,_,w,MA ht ht' hs h3 (by omega) h2 ?_,.sliceEnd hk hsp hm,hR,Step.refl _ _ _⟩
      simp[storeCells]
    | sliceZ y hz=>rw[hsp0] at hz; cases hz
 ·rename_i hfit
  split at h
  rotate_left
  ·cases h
  rename_i hroom
  obtain ⟨hroom,hb0⟩:=hroom
  cases hfx:Is a with
  | true=>
    rw[hfx] at h
    simp only[cond_true] at h
    split at h
    ·rename_i hl0
     refine ⟨_,_,h,by simp,fun μ w d x hR hfr hd hx=>?_⟩
     subst hl0
     obtain ⟨new',h1,h2,h3,h4,h5⟩:=JG (w:=w.drew) hR.drew hx (Nat.le_refl _) hnew
     have h3':(Builtin.lenOf x).run P w = .ok l' w:=by
      cases hx <;> rfl
     have hl':new.length=l'*z.cells.size:=by
      cases a' with
      | none=>
        unfold Ds at hnew
        simp only at hnew
        split at hnew
        ·cases hnew; simp[*]
        ·cases hnew
      | some a'=>exact h5 (by simp)
     obtain ⟨_,rfl,y,rfl⟩:=vq hfx hd
     have hold:(Builtin.firstCells z.cells.size 0 (.slice y 0 0)).run P w.drew = .ok #[] w.drew:=by
      cases y with
      | none=>rfl
      | some a=>simp only[Builtin.firstCells,Nat.zero_mul]; rfl
     obtain ⟨cap,rest,hcap,hrest,hrun⟩:=run_append_grow (ty:=ty) ht ht' hs hby h3' hfit hroom hb0 z hz hold h2
     have hrl:rest.toList.length=(cap-l')*z.cells.size:=by rw[hrest]; simp[Builtin.zeroCells]
     have hnl':=h1.length
     have hsum:l'*z.cells.size+(cap-l')*z.cells.size=cap*z.cells.size:=by
      rw[← Nat.add_mul]; congr 1; omega
     refine ⟨μ.put σ.length ⟨w.heap.size,0,z.cells.size,l'*z.cells.size,cap*z.cells.size⟩,_,_,hrun, ?_, ?_,(Step.drew μ σ w).trans (Step.alloc rfl)⟩
     ·rw[Nat.zero_add]
      refine RV.slice (a:=⟨σ.length,0,none⟩) (Mu.FN _ _ _) rfl (Nat.le_refl _) (by omega) (by simp)
     ·refine hR.drew.alloc (hfr _ (Nat.le_refl _) (by simp)) rfl ?_
      refine ⟨_,E,(0,0),rfl,hl',by simp only; rw[← hsum]; omega, ?_,(Mq hs).symm,fun _=>rfl,h4, ?_⟩
      ·simp only[Array.size_append,Array.size_empty,List.size_toArray,Nat.zero_add]
       have:rest.size=(cap-l')*z.cells.size:=by simpa using hrl
       omega
      ·simp only[Array.toList_append,List.drop_zero,Array.toList_empty,List.nil_append]
       rw[List.take_append_of_le_length (by omega),List.take_of_length_le (by omega)]
       exact h1
    ·cases h
  | false=>
    rw[hfx] at h
    obtain ⟨a0,rfl,hsp0⟩:=vE hfx
    simp only[cond_false,Option.bind_eq_some_iff,Option.some.injEq,exists_eq_left'] at h
    split at h
    rotate_left
    ·cases h
    rename_i hel
    simp only[Option.bind_eq_some_iff] at h
    obtain ⟨SB,hold,h⟩:=h
    cases hwb:Jg σ a0.block with
    | false=>rw[hwb] at h; cases h
    | true=>
      rw[hwb] at h
      simp only[cond_true] at h
      refine ⟨_,_,h,by simp,fun μ w d x hR hfr hd hx=>?_⟩
      have hb:∃ cs,σ[a0.block]?=some (.cells cs E true):=by
       unfold elemAt at hel
       unfold Jg at hwb
       split at hel
       ·rename_i hq; cases hel; rw[hq] at hwb; simp only at hwb; subst hwb; exact ⟨_,hq⟩
       ·cases hel
      obtain ⟨cs,hb⟩:=hb
      have hbl:a0.block<σ.length:=(List.getElem?_eq_some_iff.1 hb).1
      obtain ⟨new',h1,h2,h3,h4,h5⟩:=JG hR hx (Nat.le_refl _) hnew
      obtain ⟨new'',g1,g2,g3,g4,g5⟩:=JG (w:=w.drew) hR.drew hx (Nat.le_refl _) hnew
      have hl':new.length=l'*z.cells.size:=by
       cases a' with
       | none=>
         unfold Ds at hnew
         simp only at hnew
         split at hnew
         ·cases hnew; simp[*]
         ·cases hnew
       | some a'=>exact h5 (by simp)
      have hfresh:μ σ.length=none:=hfr _ (Nat.le_refl _) (by simp)
      have hadd:(l+l')*z.cells.size=l*z.cells.size+l'*z.cells.size:=Nat.add_mul _ _ _
      have grow:∀ (d:Value) (y:Option Addr) (c2:Nat),d = .slice y l c2→¬ l+l'≤c2 → ∀ (old':List Value),KE μ SB old'→(Builtin.firstCells z.cells.size l d).run P w.drew = .ok old'.toArray w.drew→(∀ v ∈ SB,v.oneCell'=true) →
        ∃ μ' v' w',(Builtin.append_ #[t,t'] ty #[d,x]).run P w = .ok v' w'∧RV μ' (.slice (some ⟨σ.length,0,none⟩) (l+l') (l+l')) v' ∧
         R P μ' (σ.set a0.block .dead++[A6.cells (SB++new) E true]) w'∧Step μ σ w μ' (σ.set a0.block .dead++[A6.cells (SB++new) E true]) w':=by
       intro d y c2 hdd hnf old' ho1 ho2 ho3
       subst hdd
       obtain ⟨cap,rest,hcap,hrest,hrun⟩:=run_append_grow (ty:=ty) ht ht' hs hby h3 hnf hroom hb0 z hz ho2 g2
       have hrl:rest.size=(cap-(l+l'))*z.cells.size:=by rw[hrest]; simp[Builtin.zeroCells]
       have hol:=(QC hold).1
       have hol':=ho1.length
       have hnl':=g1.length
       have hsum:(l+l')*z.cells.size+(cap-(l+l'))*z.cells.size=cap*z.cells.size:=by
        rw[← Nat.add_mul]; congr 1; omega
       obtain ⟨k,hk⟩:∃ k,μ a0.block=some k:=by
        cases hd with
        | sliceZ y hz=>rw[hsp0] at hz; cases hz
        | slice hkk _ _ _ _=>exact ⟨_,hkk⟩
        | sliceEnd hkk _ _=>exact ⟨_,hkk⟩
       have hwr:Ay σ a0.block:=wL hwb
       have hR1:R P μ (σ.set a0.block .dead) w.drew:=hR.drew.upd hk (bG hwr) hwr rfl (fun _ _=>rfl) trivial
       have hS1:Step μ σ w μ (σ.set a0.block .dead) w.drew:=Step.upd hk hbl hwr rfl rfl rfl rfl (fun _ _=>rfl)
       have hsl:(σ.set a0.block .dead).length=σ.length:=by simp
       refine ⟨μ.put σ.length ⟨w.heap.size,0,z.cells.size,(l+l')*z.cells.size,cap*z.cells.size⟩,_,_,hrun, ?_, ?_,hS1.trans ?_⟩
       ·exact RV.slice (a:=⟨σ.length,0,none⟩) (Mu.FN _ _ _) rfl (Nat.le_refl _) (by omega) (by simp)
       ·rw[← hsl]
        refine hR1.alloc (by rw[hsl]; exact hfresh) rfl ?_
        refine ⟨_,E,(0,0),rfl,by rw[List.length_append,hol,hl',hadd],by simp only; omega, ?_,(Mq hs).symm,fun _=>rfl, ?_, ?_⟩
        ·simp only[Array.size_append,List.size_toArray]
         omega
        ·intro v hv
         rcases List.mem_append.1 hv with hv | hv
         ·exact ho3 v hv
         ·exact h4 v hv
        ·simp only[Array.toList_append,List.drop_zero]
         rw[List.take_append_of_le_length (by rw[List.length_append]; omega),List.take_of_length_le (by rw[List.length_append]; omega)]
         exact ho1.append g1
       ·rw[← hsl]; exact Step.alloc rfl
      cases hd with
      | @slice _ k _ _ c2 hk hsp hl hc hm=>
        have hsz:=Z2 hR hel hk
        rw[Mq hs] at hsz
        obtain ⟨hol,hold1⟩:=QC hold
        obtain ⟨old',ho1,ho2,ho3⟩:=Nd hR.drew hk hol hold1
        by_cases hfit2:l+l'≤c2
        ·obtain ⟨w',μ',hrun,hR',hS,hμ⟩:=hR.Aex hfresh hk hb hsz (.inl hold) h1 h4 hl' hfit2 (by rw[hsz] at hm; exact hm)
         refine ⟨μ',_,w',MA ht ht' hs h3 hfit2 h2 ?_, ?_,hR',hS⟩
         ·simp only[NM]; exact hrun
         ·exact RV.slice (a:=⟨σ.length,0,none⟩) hμ rfl (Nat.le_refl _) hfit2 (by simp)
        ·exact grow _ _ _ rfl hfit2 old' ho1 (by simpa [Builtin.firstCells] using ho2) ho3
      | @sliceEnd _ k o' c2 hk hsp hm=>
        have hsz:=Z2 hR hel hk
        rw[Mq hs] at hsz
        have holdn:SB=[]:=by
         have:=(QC hold).1
         simpa using this
        subst holdn
        by_cases hfit2:0+l'≤c2
        ·obtain ⟨w',μ',hrun,hR',hS,hμ⟩:=hR.Aex (off:=o') (l:=0) (SB:=[]) hfresh hk hb hsz (.inr ⟨rfl,rfl⟩) h1 h4 hl' hfit2 (by rw[hsz] at hm; exact hm)
         refine ⟨μ',_,w',MA ht ht' hs h3 hfit2 h2 ?_, ?_,hR',hS⟩
         ·simp only[NM]; exact hrun
         ·exact RV.slice (a:=⟨σ.length,0,none⟩) hμ rfl (Nat.le_refl _) hfit2 (by simp)
        ·exact grow _ _ _ rfl hfit2 [] .nil (by simp only[Builtin.firstCells,Nat.zero_mul]; rfl) (by simp)
      | sliceZ y hz=>rw[hsp0] at hz; cases hz
theorem xi {E:TypeId} {t t' E' ty:TypeId} {a a':Option Addr} {l c l' c':Nat} {σ:Aa} {r:Ce × Aa} (ht:P.underlying t=some (.slice E)) (ht':P.underlying t'=some (.slice E'))
  (h:B9 P E (a,l,c) (a',l',c') σ=some r):σ.length≤r.2.length ∧
   ∀ (μ:Mu) (w:World) (d x:Value),R P μ σ w→Ia μ σ.length r.2.length→RV μ (.slice a l c) d→RV μ (.slice a' l' c') x →
    ∃ μ' v' w',(Builtin.append_ #[t,t'] ty #[d,x]).run P w = .ok v' w'∧RV μ' (.slice r.1.1 r.1.2.1 r.1.2.2) v'∧R P μ' r.2 w'∧Step μ σ w μ' r.2 w':=by
 obtain ⟨v,σ',hK,hlen,hmain⟩:=xh (ty:=ty) ht ht' h
 unfold slK at hK
 split at hK
 ·cases hK; exact ⟨hlen,hmain⟩
 ·cases hK
end Go.AX
end
section
namespace Go.AX
open Go
variable {ρ:Type} {P:Program} [A9]
theorem cH {σ:Aa} {s:Nat} {x:Option Addr} {new:List Value} (h:Ds σ s x 0=some new):new=[]:=by
 unfold Ds at h
 split at h
 ·have:=(QC h).1; simpa using this
 ·simpa [eq_comm] using h
theorem xX {c:Call} {call:GM} {q:Bool} {ty:TypeId} {e:Operand→Option Value} {σ:Aa} {K:Value→Aa→Option ρ} {r:ρ} {o:Oper} (ho:o.op = .call c) (hb:c.callee = .builtin .append)
  (h:Kx P call q (.call c) ty e σ K=some r):∃ v σ',K v σ'=some r∧σ.length≤σ'.length∧zL P o e σ v σ'∧(q=true→σ <+: σ'):=by
 simp only[Kx,hb] at h
 obtain ⟨vs,h1,hvs⟩:=QA h
 clear h
 simp only[Vl] at h1
 unfold yV at h1
 split at h1
 rotate_left
 ·cases h1
 rename_i t t' a l c2 a' l' c' hts
 split at h1
 rotate_left
 ·cases h1
 rename_i E' ht'
 simp only[Option.bind_eq_some_iff] at h1
 obtain ⟨E,hE,rr,happ,hK⟩:=h1
 obtain ⟨hlen,hmain⟩:=xi (ty:=o.type) (Le hE) ht' happ
 have hK':K (.slice rr.1.1 rr.1.2.1 rr.1.2.2) rr.2=some r∧(q=true→σ <+: rr.2):=by
  cases q with
  | true=>
    simp only[Tf,cond_true] at hK
    unfold QE at hK
    cases hq:A9.q σ rr.2 with
    | true=>rw[hq] at hK; exact ⟨hK,fun _=>A9.ok hq⟩
    | false=>rw[hq] at hK; cases hK
  | false=>
    simp only[Tf,cond_false] at hK
    exact ⟨hK,fun h=>by cases h⟩
 refine ⟨_,_,hK'.1,hlen,fun μ w f hR hfr hf=>?_,hK'.2⟩
 obtain ⟨cs,hex⟩:=DA (f:=f) ho hb
 have hr:=hvs μ f hf
 generalize c.args.toList.map f=lst at hr hex
 cases hr with
 | cons hr1 hr2=>
   cases hr2 with
   | cons hr2 hr3=>
     cases hr3
     obtain ⟨μ',v',w',hrun,g1,g2,g3⟩:=hmain μ w _ _ hR hfr hr1 hr2
     refine ⟨μ',v',w',.inl ?_,g1,g2,g3⟩
     rw[hex,toList_eq hts]
     simp only[builtin,Sem.run_bind,hrun,Result.andThen_ok,Sem.run_pure]
theorem Aiz {o:Oper} {c:Call} {b:Builtin} (ho:o.op = .call c) (hb:c.callee = .builtin b) (h:isApp o=true):b = .append:=by
 unfold isApp at h
 rw[ho] at h
 simp only[hb] at h
 cases b <;> first | rfl | cases h
theorem pf {c:Call} {b:Builtin} {call:GM} {q:Bool} {ty:TypeId} {e:Operand→Option Value} {σ:Aa} {K:Value→Aa→Option ρ} {r:ρ} {o:Oper} (ho:o.op = .call c) (hb:c.callee = .builtin b)
  (hna:b ≠ .append) (hc:q8 b (c8 P c.argTypes.toList) = .lo) (h:Kx P call q (.call c) ty e σ K=some r):∃ v σ',K v σ'=some r∧σ.length≤σ'.length∧zL P o e σ v σ':=by
 simp only[Kx,hb] at h
 obtain ⟨vs,h1,hvs⟩:=QA h
 clear h
 cases b <;> simp only[q8] at hc <;> first
  | (cases hc; done)
  | (simp only[Vl] at h1; first | (cases h1; done) | skip)
 case len=>cases hm:c8 P c.argTypes.toList <;> rw[hm] at hc <;> cases hc
 case append=>exact absurd rfl hna
 case copy=>
  unfold Ahy at h1
  split at h1
  rotate_left
  ·cases h1
  rename_i t t' a l c2 a' l' c' hts
  simp only[Option.bind_eq_some_iff] at h1
  obtain ⟨E,hE,s,hs,new,hnew,σ1,hst0,h1⟩:=h1
  have hT:=Le hE
  have run:∀ (μ:Mu) (w w':World) (f:Operand→Value) (base:Option Addr) (cc:Nat) (x:Value) (new':List Value),c.args.toList.map f=[.slice base l cc,x]→(Builtin.lenOf x).run P w = .ok l' w →
    (Builtin.firstCells s (Nat.min l' l) x).run P w = .ok new'.toArray w→(match base with | some a=>storeCells a new' | none=>pure ()).run P w = .ok () w' →
    (execOp f o).run P w = .ok (.value (.int .i64 (Nat.min l' l:Nat))) w':=by
   intro μ w w' f base cc x new' hargs hlen hfirst hst
   obtain ⟨cs,hex⟩:=DA (f:=f) ho hb
   rw[hex,hargs,toList_eq hts]
   cases base with
   | none=>
     simp only[Sem.run_pure] at hst; cases hst
     simp only[builtin,Sem.run_bind,Builtin.copy_,List.getElem?_toArray,List.getElem?_cons_zero,List.getElem?_cons_succ,run_underlying hT,Result.andThen_ok,hlen,run_sizeOf hs,hfirst,Sem.run_pure,goInt]
   | some a=>
     simp only at hst
     simp only[builtin,Sem.run_bind,Builtin.copy_,List.getElem?_toArray,List.getElem?_cons_zero,List.getElem?_cons_succ,run_underlying hT,Result.andThen_ok,hlen,run_sizeOf hs,hfirst,Sem.run_pure,goInt,hst]
  cases a with
  | none=>
    simp only[stO,Option.some.injEq] at hst0
    subst hst0
    refine ⟨_,σ,h1,Nat.le_refl _,fun μ w f hR hfr hf=>?_⟩
    have hr:=hvs μ f hf
    generalize hargs:c.args.toList.map f=lst at hr
    cases hr with
    | cons hr1 hr2=>
      cases hr2 with
      | cons hr2 hr3=>
        cases hr3
        cases hr1 with
        | sliceNil=>
          have hmin:Nat.min l' 0=0:=Nat.min_zero _
          rw[hmin] at hnew
          have hn:=cH hnew
          subst hn
          obtain ⟨new',g1,g2,g3,g4,g5⟩:=JG hR hr2 (Nat.zero_le _) hnew
          cases g1
          refine ⟨μ,_,w,.inl (run μ w w f none 0 _ [] hargs g3 (by rw[hmin]; exact g2) rfl),.int _ _,hR,Step.refl _ _ _⟩
  | some a0=>
    simp only[stO] at hst0
    obtain ⟨cs,T,hbb,hlen,rfl⟩:=YV hst0
    refine ⟨_,_,h1,by simp,fun μ w f hR hfr hf=>?_⟩
    have hr:=hvs μ f hf
    generalize hargs:c.args.toList.map f=lst at hr
    cases hr with
    | cons hr1 hr2=>
      cases hr2 with
      | cons hr2 hr3=>
        cases hr3
        obtain ⟨new',g1,g2,g3,g4,g5⟩:=JG hR hr2 (Nat.min_le_left _ _) hnew
        cases hr1 with
        | @slice _ k _ _ cc hk hsp hl hcc hm=>
          obtain ⟨w',hrun,hR',hS⟩:=OE hR hk hbb g1 g4 hlen
          exact ⟨μ,_,w',.inl (run μ w w' f _ cc _ new' hargs g3 g2 hrun),.int _ _,hR',hS⟩
        | @sliceEnd _ k o' cc hk hsp hm=>
          have hmin:Nat.min l' 0=0:=Nat.min_zero _
          have hn:new=[]:=by rw[hmin] at hnew; exact cH hnew
          subst hn
          cases g1
          rw[ZN _ _ (by simpa using hlen),dh hbb]
          exact ⟨μ,_,w,.inl (run μ w w f _ cc _ [] hargs g3 g2 rfl),.int _ _,hR,Step.refl _ _ _⟩
        | sliceZ y hz=>
          have hmin:Nat.min l' 0=0:=Nat.min_zero _
          have hn:new=[]:=by rw[hmin] at hnew; exact cH hnew
          subst hn
          cases g1
          rw[ZN _ _ (by simpa using hlen),dh hbb]
          exact ⟨μ,_,w,.inl (run μ w w f _ 0 _ [] hargs g3 g2 rfl),.int _ _,hR,Step.refl _ _ _⟩
 case clear=>
  unfold Adp at h1
  split at h1
  rotate_left
  ·cases h1
  rename_i t v hts
  split at h1
  ·rename_i kt E rr hT
   simp only[Option.bind_eq_some_iff] at h1
   obtain ⟨es,hes,h1⟩:=h1
   rcases rr with _ | r'
   ·refine ⟨_,σ,h1,Nat.le_refl _,fun μ w f hR hfr hf=>?_⟩
    obtain ⟨cs,hex⟩:=DA (f:=f) ho hb
    have hr:=hvs μ f hf
    generalize c.args.toList.map f=lst at hr hex
    cases hr with
    | cons hr1 hr2=>
      cases hr2
      rw[Y7 hr1] at hex
      refine ⟨μ,_,w,.inl ?_,.tuple .nil,hR,Step.refl _ _ _⟩
      rw[hex,toList_eq hts]
      simp[builtin,Builtin.clear_,run_underlying hT]
   ·simp only[qK] at hes
    refine ⟨_,_,h1,by simp[Ab0],fun μ w f hR hfr hf=>?_⟩
    obtain ⟨cs,hex⟩:=DA (f:=f) ho hb
    have hr:=hvs μ f hf
    generalize c.args.toList.map f=lst at hr hex
    cases hr with
    | cons hr1 hr2=>
      cases hr2
      obtain ⟨kb,hkb,hfm⟩:=kJ hr1
      obtain ⟨entries,clock,hh,hre⟩:=k9 hR hes hkb
      have hbb:σ[r']?=some (.map es):=by
       unfold Yt at hes
       split at hes
       ·cases hes; assumption
       ·cases hes
      obtain ⟨hR',hS⟩:=Tx (entries2:=#[]) hR hkb hbb clock .nil
      rw[hfm] at hex
      refine ⟨μ,_,_,.inl ?_,.tuple .nil,hR',hS⟩
      rw[hex,toList_eq hts]
      simp[builtin,Builtin.clear_,run_underlying hT,MB hh,VU hh]
  ·rename_i E a l c2 hT
   simp only[Option.bind_eq_some_iff] at h1
   obtain ⟨z,hz,h1⟩:=h1
   split at h1
   rotate_left
   ·cases h1
   rename_i hzz
   simp only[Option.bind_eq_some_iff] at h1
   obtain ⟨σ',hst,h1⟩:=h1
   split at hst
   ·rename_i hl0
    subst hl0
    cases hst
    refine ⟨_,σ,h1,Nat.le_refl _,fun μ w f hR hfr hf=>?_⟩
    obtain ⟨cs,hex⟩:=DA (f:=f) ho hb
    have hr:=hvs μ f hf
    generalize c.args.toList.map f=lst at hr hex
    cases hr with
    | cons hr1 hr2=>
      cases hr2
      refine ⟨μ,_,w,.inl ?_,.tuple .nil,hR,Step.refl _ _ _⟩
      rw[hex,toList_eq hts]
      cases hr1 with
      | sliceNil=>simp[builtin,Builtin.clear_,run_underlying hT]
      | sliceZ=>simp[builtin,Builtin.clear_,run_underlying hT]
      | slice=>simp[builtin,Builtin.clear_,run_underlying hT]
      | sliceEnd=>simp[builtin,Builtin.clear_,run_underlying hT]
   ·rename_i hl0
    simp only[Option.bind_eq_some_iff] at hst
    obtain ⟨a0,ha0,hst⟩:=hst
    subst ha0
    obtain ⟨cs,T,hbb,hlen,rfl⟩:=YV hst
    refine ⟨_,_,h1,by simp,fun μ w f hR hfr hf=>?_⟩
    obtain ⟨cs',hex⟩:=DA (f:=f) ho hb
    have hr:=hvs μ f hf
    generalize c.args.toList.map f=lst at hr hex
    cases hr with
    | cons hr1 hr2=>
      cases hr2
      obtain ⟨hz1,hz2⟩:=MC hz w
      obtain ⟨g1,g2,g3⟩:=L5 (RV.JU (μ:=μ) hz2) hzz.1
      have hrep:=ur z.cells l hzz.2
      cases hr1 with
      | @slice _ k _ _ cc hk hsp hl hcc hm=>
        obtain ⟨w',hrun,hR',hS⟩:=OE hR hk hbb (g1.rep l) (by
         intro v hv; simp only[AX.rep,List.mem_flatten,List.mem_replicate] at hv; obtain ⟨l,⟨_,rfl⟩,hvl⟩:=hv; exact g2 v hvl) hlen
        refine ⟨μ,_,w',.inl ?_,.tuple .nil,hR',hS⟩
        rw[hex,toList_eq hts]
        have hne:l≠0:=hl0
        rw[← hrep] at hrun
        cases l with
        | zero=>exact absurd rfl hl0
        | succ l=>simp[builtin,Builtin.clear_,run_underlying hT,hz1,hrun]
      | sliceEnd=>exact absurd rfl hl0
      | sliceZ=>exact absurd rfl hl0
  ·cases h1
 case delete=>
  unfold za at h1
  split at h1
  rotate_left
  ·cases h1
  rename_i t t' rr k hts
  have hk64:∀ {kt},Aa5 P kt=true → ∀ (b:Bool) (w:World),(Instr.checkKey b 10000 kt (.int .i64 k)).run P w = .ok () w:=fun h b w=>Zr (dH h) b 9999 w
  split at h1
  ·rename_i rr _ _ kt E hT
   split at h1
   rotate_left
   ·cases h1
   rename_i hkt
   simp only[Option.bind_eq_some_iff] at h1
   obtain ⟨es,hes,h1⟩:=h1
   rcases rr with _ | r'
   ·refine ⟨_,σ,h1,Nat.le_refl _,fun μ w f hR hfr hf=>?_⟩
    obtain ⟨cs,hex⟩:=DA (f:=f) ho hb
    have hr:=hvs μ f hf
    generalize c.args.toList.map f=lst at hr hex
    cases hr with
    | cons hr1 hr2=>
      cases hr2 with
      | cons hr2 hr3=>
        cases hr3
        rw[Y7 hr1,gO hr2] at hex
        refine ⟨μ,_,w,.inl ?_,.tuple .nil,hR,Step.refl _ _ _⟩
        rw[hex,toList_eq hts]
        simp[builtin,Builtin.delete_,run_underlying hT,hk64 hkt]
   ·simp only[qK] at hes
    refine ⟨_,_,h1,by simp[Ab0],fun μ w f hR hfr hf=>?_⟩
    obtain ⟨cs,hex⟩:=DA (f:=f) ho hb
    have hr:=hvs μ f hf
    generalize c.args.toList.map f=lst at hr hex
    cases hr with
    | cons hr1 hr2=>
      cases hr2 with
      | cons hr2 hr3=>
        cases hr3
        obtain ⟨kb,hkb,hfm⟩:=kJ hr1
        obtain ⟨entries,clock,hh,hre⟩:=k9 hR hes hkb
        have hbb:σ[r']?=some (.map es):=by
         unfold Yt at hes
         split at hes
         ·cases hes; assumption
         ·cases hes
        rw[hfm,gO hr2] at hex
        have hki:=dH hkt
        have hfind:=findNow_spec (k:=k) es entries.toList 0 hre
        cases hg:TN es k with
        | none=>
          rw[hg] at hfind
          obtain ⟨h1',h2,h3⟩:=hfind
          obtain ⟨hR',hS⟩:=Tx (es2:=Sd k es) (entries2:=entries) hR hkb hbb clock (by rw[h3]; exact hre)
          refine ⟨μ,_,_,.inl ?_,.tuple .nil,hR',hS⟩
          rw[hex,toList_eq hts]
          simp[builtin,Builtin.delete_,run_underlying hT,MB hh,hk64 hkt,Instr.findKey,run_underlying hki,h1',VU hh]
        | some u=>
          rw[hg] at hfind
          obtain ⟨j,e',h1',h2,h3,h4,h5,h6,h7⟩:=hfind
          rw[Nat.zero_add] at h1'
          obtain ⟨hR',hS⟩:=Tx (es2:=Sd k es) (entries2:=entries.eraseIdxIfInBounds j) hR hkb hbb clock (by rw[h6,Array.toList_eraseIdxIfInBounds]; exact hre.erase j)
          refine ⟨μ,_,_,.inl ?_,.tuple .nil,hR',hS⟩
          rw[hex,toList_eq hts]
          simp[builtin,Builtin.delete_,run_underlying hT,MB hh,hk64 hkt,Instr.findKey,run_underlying hki,h1',VU hh]
  ·cases h1
end Go.AX
end
section
namespace Go.AX
open Go
variable {ρ:Type} {P:Program} [A9]
theorem ZU {dj:Option Nat} {known:List (Nat × Bool)}:∀ {l:List (Nat × Oper)} {x:List (Nat × Oper) × (Nat × Oper) × List (Nat × Oper)},YU dj known l=some x→l=x.1++x.2.1::x.2.2
 | [],x,h=>by simp[YU] at h
 | io::rest,x,h=>by
   simp only[YU] at h
   cases hp:Ad3 dj known io.2 with
   | true=>rw[hp] at h; simp at h; subst h; rfl
   | false=>
     rw[hp] at h
     simp only[cond_false,Option.map_eq_some_iff] at h
     obtain ⟨y,hy,rfl⟩:=h
     rw[ZU hy]; rfl
theorem Ae5 {α:Type} (want b:Bool) (x y:α):sel want b x y=bif b == want then x else y:=by cases want <;> cases b <;> rfl
theorem tT {σ σ':Aa} {m:Option ρ} {r:ρ} (h:QE σ σ' m=some r):σ <+: σ'∧m=some r:=by
 unfold QE at h
 cases hq:A9.q σ σ' with
 | true=>rw[hq] at h; exact ⟨A9.ok hq,h⟩
 | false=>rw[hq] at h; cases h
theorem Aek {S:FuncId→Bool} {call:GM} (hcall:∀ f args σ v σ',S f=true→call f args σ=some (v,σ')→σ <+: σ') {q:Bool} {o:Oper} {regs:AZ} {σ:Aa} {K:Value→Aa→Option ρ} {r:ρ}
  (ha:kA P S o=true) (h:Kx P call q o.op o.type (tB regs) σ K=some r):∃ v σ',K v σ'=some r∧σ <+: σ':=by
 by_cases hnc:∀ c,o.op ≠ .call c
 ·cases hc:Gm P o with
  | pure=>obtain ⟨v,h1,_⟩:=Yy hc h; exact ⟨v,σ,h1,List.prefix_rfl⟩
  | ld=>obtain ⟨v,h1,_⟩:=tN hc h; exact ⟨v,σ,h1,List.prefix_rfl⟩
  | al=>obtain ⟨v,x,h1,_⟩:=xW hc hnc h; exact ⟨v,σ++[x],h1,⟨[x],rfl⟩⟩
  | lo=>
    unfold kA at ha
    split at ha
    ·rename_i c ho; exact absurd ho (hnc c)
    ·rw[hc] at ha; cases ha
 ·have:∃ c,o.op = .call c:=by
   apply Classical.byContradiction
   intro hq
   exact hnc fun c hc=>hq ⟨c,hc⟩
  obtain ⟨c,ho⟩:=this
  simp only[kA,ho] at ha
  split at ha
  ·rename_i f hcal
   rw[ho] at h
   simp only[Kx,hcal,Option.bind_eq_some_iff,tB] at h
   obtain ⟨fv,hfv,h⟩:=h
   cases hfv
   obtain ⟨vs,h1,_⟩:=QA h
   clear h
   simp only[Option.bind_eq_some_iff] at h1
   obtain ⟨⟨v,σ'⟩,hcl,h1⟩:=h1
   have hp:σ <+: σ':=hcall f _ σ v σ' ha (tK hcl).2
   cases hb:(q && !yY P (.func (.func f) #[] #[])) with
   | true=>
     rw[hb] at h1
     simp only[Tf,cond_true] at h1
     exact ⟨v,σ',Zk (tT h1).2,hp⟩
   | false=>
     rw[hb] at h1
     simp only[Tf,cond_false] at h1
     exact ⟨v,σ',Zk h1,hp⟩
  ·rename_i b hcal
   cases hc:Gm P o with
   | pure=>obtain ⟨v,h1,_⟩:=Yy hc h; exact ⟨v,σ,h1,List.prefix_rfl⟩
   | ld=>obtain ⟨v,h1,_⟩:=tN hc h; exact ⟨v,σ,h1,List.prefix_rfl⟩
   | al=>
     simp only[Gm,ho,hcal] at hc
     cases b <;> cases hm:c8 P c.argTypes.toList <;> simp[hm,q8] at hc
   | lo=>rw[hc] at ha; cases ha
  ·cases ha
theorem xM {a:Option Addr} {σ σ':Aa} {m:Option ρ} {r:ρ} (h:Oe a σ σ' m=some r):m=some r ∧ ∀ b,a=some b→σ'[b.block]?=σ[b.block]?:=by
 cases a with
 | none=>exact ⟨h,fun b e=>by cases e⟩
 | some b=>
   unfold Oe at h
   simp only at h
   cases hk:A9.k σ σ' b.block with
   | true=>rw[hk] at h; exact ⟨h,fun b' e=>by cases e; exact A9.kok hk⟩
   | false=>rw[hk] at h; cases h
theorem xL {a:Option Addr} {σ σ':Aa} {m:Option ρ} {r:ρ} (h:Ad5 a σ σ' m=some r):m=some r ∧ ∀ b:Addr,a=some b→b.block<σ.length∧σ'[b.block]?=σ[b.block]?:=by
 cases a with
 | none=>exact ⟨h,fun b e=>by cases e⟩
 | some b=>
   unfold Ad5 at h
   simp only at h
   cases hk:(Nat.blt b.block σ.length && A9.k σ σ' b.block) with
   | true=>
     rw[hk] at h
     rw[Bool.and_eq_true,Nat.blt_eq] at hk
     exact ⟨h,fun b' e=>by cases e; exact ⟨hk.1,A9.kok hk.2⟩⟩
   | false=>rw[hk] at h; cases h
def Kept (ts:List Nat) (E:AZ) (σ σ':Aa):Prop:=∀ t ∈ ts,(∃ a,E.getD t none=some (.pointer a) ∧ ∀ b,a=some b→σ'[b.block]?=σ[b.block]?) ∨
 ∃ a l c,E.getD t none=some (.slice a l c) ∧ ∀ b:Addr,a=some b→b.block<σ.length∧σ'[b.block]?=σ[b.block]?
theorem WK:∀ {ts:List Nat} {regs:AZ} {σ σ':Aa} {m:Option ρ} {r:ρ},c9 ts regs σ σ' m=some r→m=some r∧Kept ts regs σ σ'
 | [],regs,σ,σ',m,r,h=>⟨h,fun t ht=>by cases ht⟩
 | t::ts,regs,σ,σ',m,r,h=>by
   simp only[c9] at h
   split at h
   ·rename_i a ha
    obtain ⟨h1,h2⟩:=xM h
    obtain ⟨h3,h4⟩:=WK h1
    refine ⟨h3,fun t' ht=>?_⟩
    rcases List.mem_cons.1 ht with rfl | ht
    ·exact .inl ⟨a,ha,h2⟩
    ·exact h4 t' ht
   ·rename_i a l c ha
    obtain ⟨h1,h2⟩:=xL h
    obtain ⟨h3,h4⟩:=WK h1
    refine ⟨h3,fun t' ht=>?_⟩
    rcases List.mem_cons.1 ht with rfl | ht
    ·exact .inr ⟨a,l,c,ha,h2⟩
    ·exact h4 t' ht
   ·cases h
theorem Ti {S:FuncId→Bool} {call:GM} (hcall:∀ f args σ v σ',S f=true→call f args σ=some (v,σ')→σ <+: σ') {qf:Nat→QF} {all:List Oper}:∀ (fuel:Nat) {ρ:Type} {known:List (Nat × Bool)} {ops:List (Nat × Oper)} {regs:AZ} {σ:Aa} {K:AZ→Aa→Option ρ} {r:ρ},
  ND P call qf all fuel ρ known ops regs σ K=some r→(∀ io ∈ ops,kA P S io.2=true) → ∃ regs' σ',K regs' σ'=some r∧σ <+: σ'
 | 0,ρ,known,ops,regs,σ,K,r,h,ha=>by simp[ND] at h
 | fuel+1,ρ,known,ops,regs,σ,K,r,h,ha=>by
   cases ops with
   | nil=>simp only[ND] at h; exact ⟨regs,σ,h,List.prefix_rfl⟩
   | cons io rest=>
     have one:(Kx P call (qf io.1).1 io.2.op io.2.type (tB regs) σ fun v σ'=>c9 (qf io.1).2 regs σ σ' (ND P call qf all fuel ρ known rest (M7 regs io.2.dst (some v)) σ' K))=some r → ∃ regs' σ',K regs' σ'=some r∧σ <+: σ':=by
      intro h
      obtain ⟨v,σ1,h1,h2⟩:=Aek hcall (ha io (by simp)) h
      obtain ⟨regs',σ',g1,g2⟩:=Ti hcall fuel (WK h1).1 (fun io' h'=>ha io' (by simp[h']))
      exact ⟨regs',σ',g1,h2.trans g2⟩
     simp only[ND] at h
     split at h
     ·exact one h
     ·rename_i j want hg
      cases hk:known.contains (j,want) with
      | true=>
        rw[hk] at h
        simp only[cond_true] at h
        split at h
        ·rename_i b hr
         cases hbw:(b == want) with
         | false=>rw[hbw] at h; cases h
         | true=>rw[hbw] at h; exact one h
        ·cases h
      | false=>
        rw[hk] at h
        simp only[cond_false] at h
        split at h
        ·cases h
        ·rename_i body p after hsp
         have hrest:=ZU hsp
         simp only at hrest
         split at h
         ·rename_i b hr
          simp only[Option.bind_eq_some_iff] at h
          obtain ⟨⟨rb,σ1⟩,h1,h2⟩:=h
          rw[Ae5] at h1
          have fin:∀ (regs':AZ) (σ':Aa),(((p.2.dst.bind fun d=>regs'.getD d none).bind Ez).bind fun r=>some (r,σ'))=some (rb,σ1)→σ'=σ1:=by
           intro regs' σ' hq
           rw[Option.bind_eq_some_iff] at hq
           obtain ⟨x,hx,hxx⟩:=hq
           cases hxx
           rfl
          have hmem:∀ io' ∈ io::(body++[p]),kA P S io'.2=true:=by
           intro io' h'
           apply ha
           rw[hrest]
           simp at h' ⊢
           rcases h' with h' | h' | h' <;> simp[h']
          have grp:σ <+: σ1:=by
           cases hbw:(b == want) with
           | true=>
             rw[hbw] at h1
             simp only[cond_true] at h1
             obtain ⟨regs',σ',g1,g2⟩:=Ti hcall fuel h1 hmem
             rw[← fin _ _ g1]; exact g2
           | false=>
             rw[hbw] at h1
             simp only[cond_false,Option.bind_eq_some_iff] at h1
             obtain ⟨regs2,hs,h1⟩:=h1
             obtain ⟨regs',σ',g1,g2⟩:=Ti hcall fuel h1 (fun io' h'=>hmem io' (by simp at h'; simp[h']))
             rw[← fin _ _ g1]; exact g2
          obtain ⟨regs',σ',g1,g2⟩:=Ti hcall fuel h2 (fun io' h'=>ha io' (by rw[hrest]; simp[h']))
          exact ⟨regs',σ',g1,grp.trans g2⟩
         ·cases h
theorem si {regs:AZ} {r:Ax} {x:Dh} {σ:Aa}:∀ {os:List (Nat × Kd)} {acc:List Value→List Value},pg regs os (fun vs=>some (x,acc vs,σ))=some r→r.2.2=σ
 | [],acc,h=>by simp only[pg] at h; cases h; rfl
 | (t,k)::os,acc,h=>by
   simp only[pg,Option.bind_eq_some_iff] at h
   obtain ⟨v,_,h⟩:=h
   exact si (acc:=fun vs=>acc (v::vs)) h
theorem jc {exits:List (Dh × List (Nat × Kd))} {x:Dh} {regs:AZ} {σ:Aa} {r:Ax} (h:pack exits x regs σ=some r):r.2.2=σ:=by
 unfold pack at h
 simp only[Option.bind_eq_some_iff] at h
 obtain ⟨outs,_,h⟩:=h
 exact si (acc:=id) h
theorem qe {x:Dh} {K:Dh→List (Nat × Kd)→Option ρ} {r:ρ}:∀ {es:List (Dh × List (Nat × Kd))},hO x K es=some r → ∃ y outs,K y outs=some r
 | [],h=>by cases h
 | e::es,h=>by
   simp only[hO] at h
   split at h
   ·exact ⟨_,_,h⟩
   ·exact qe h
theorem Adh {ks:List Kd}:∀ {l:List Value} {K:List Value→Option ρ} {r:ρ},tq ks l K=some r → ∃ vs,K vs=some r:=by
 induction ks with
 | nil=>intro l K r h; exact ⟨_,h⟩
 | cons k ks ih=>
   intro l K r h
   simp only[tq,Option.bind_eq_some_iff] at h
   obtain ⟨v,_,h⟩:=h
   obtain ⟨vs,h⟩:=ih (bM h)
   exact ⟨_,h⟩
theorem qh {h:Hint} {c:Code} {regs:AZ} {r1:Ax} {K:Dh→AZ→Aa→Option ρ} {r:ρ} (hu:unpack h c regs r1 K=some r):∃ x regs2,K x regs2 r1.2.2=some r:=by
 unfold unpack at hu
 obtain ⟨y,outs,hu⟩:=qe hu
 obtain ⟨vs,hu⟩:=Adh hu
 exact ⟨_,_,hu⟩
theorem pa {B:AZ→Aa→(Dh→AZ→Aa→Option Ax)→Option Ax} {h:Hint} (hB:∀ regs σ K r,B regs σ K=some r → ∃ x regs' σ',K x regs' σ'=some r∧σ <+: σ'):∀ (n:Nat) {regs:AZ} {σ:Aa} {r:Ax},lP B h n regs σ=some r→σ <+: r.2.2
 | 0,_,_,_,e=>by cases e
 | n+1,regs,σ,r,e=>by
   simp only[lP] at e
   obtain ⟨x,regs',σ',g1,g2⟩:=hB _ _ _ _ e
   cases x with
   | normal=>exact g2.trans (pa hB n g1)
   | exit i=>rw[jc g1]; exact g2
   | ret=>rw[jc g1]; exact g2
theorem Aat {S:FuncId→Bool} {call:GM} (hcall:∀ f args σ v σ',S f=true→call f args σ=some (v,σ')→σ <+: σ') {fid:FuncId} {H:Hints} {n:Nat}:∀ (c:Code) {ρ:Type} {regs:AZ} {σ:Aa} {K:Dh→AZ→Aa→Option ρ} {r:ρ},
  W5 P S c=true→exec P call fid H n c ρ regs σ K=some r → ∃ x regs' σ',K x regs' σ'=some r∧σ <+: σ':=by
 intro c
 induction c with
 | skip=>intro ρ regs σ K r ha h; exact ⟨_,_,_,h,List.prefix_rfl⟩
 | exit i=>intro ρ regs σ K r ha h; exact ⟨_,_,_,h,List.prefix_rfl⟩
 | ret=>intro ρ regs σ K r ha h; exact ⟨_,_,_,h,List.prefix_rfl⟩
 | region id ops draw=>
   intro ρ regs σ K r ha h
   simp only[exec] at h
   simp only[W5,List.all_eq_true] at ha
   cases hd:(draw && !gw P ops.toList (VP P ops.toList draw)) with
   | true=>rw[hd] at h; cases h
   | false=>
     rw[hd] at h
     simp only[cond_false] at h
     obtain ⟨regs',σ',g1,g2⟩:=Ti hcall _ h (by
      intro io hio
      simp only[List.mem_map] at hio
      obtain ⟨x,hx,rfl⟩:=hio
      exact ha _ (by
       have:=List.mem_zipIdx hx
       obtain ⟨_,h2,h3⟩:=this
       simp only at h3 ⊢
       rw[h3]; exact List.getElem_mem _))
     exact ⟨_,_,_,g1,g2⟩
 | seq a b iha ihb=>
   intro ρ regs σ K r ha h
   simp only[exec] at h
   simp only[W5,Bool.and_eq_true] at ha
   obtain ⟨x,regs',σ',g1,g2⟩:=iha ha.1 h
   cases x with
   | normal=>
     obtain ⟨y,regs2,σ2,k1,k2⟩:=ihb ha.2 g1
     exact ⟨y,regs2,σ2,k1,g2.trans k2⟩
   | exit i=>exact ⟨_,_,_,g1,g2⟩
   | ret=>exact ⟨_,_,_,g1,g2⟩
 | cond c a b iha ihb=>
   intro ρ regs σ K r ha h
   simp only[exec] at h
   simp only[W5,Bool.and_eq_true] at ha
   split at h
   ·rename_i bb hb
    split at h
    ·cases bb with
     | true=>exact iha ha.1 h
     | false=>exact ihb ha.2 h
    ·simp only[Option.bind_eq_some_iff] at h
     obtain ⟨r1,h1,h2⟩:=h
     have hp:σ <+: r1.2.2:=by
      cases bb with
      | true=>
        obtain ⟨x,regs',σ',g1,g2⟩:=iha ha.1 h1
        rw[jc g1]; exact g2
      | false=>
        obtain ⟨x,regs',σ',g1,g2⟩:=ihb ha.2 h1
        rw[jc g1]; exact g2
     obtain ⟨x,regs2,k⟩:=qh h2
     exact ⟨x,regs2,_,k,hp⟩
   ·cases h
 | block id c ih=>
   intro ρ regs σ K r ha h
   simp only[exec] at h
   simp only[W5] at ha
   obtain ⟨x,regs',σ',g1,g2⟩:=ih ha h
   cases x with
   | normal=>exact ⟨_,_,_,g1,g2⟩
   | exit i=>
     simp only at g1
     split at g1
     ·exact ⟨_,_,_,g1,g2⟩
     ·exact ⟨_,_,_,g1,g2⟩
   | ret=>exact ⟨_,_,_,g1,g2⟩
 | loop c ih=>
   intro ρ regs σ K r ha h
   simp only[exec] at h
   simp only[W5] at ha
   split at h
   ·cases h
   ·simp only[Option.bind_eq_some_iff] at h
    obtain ⟨r1,h1,h2⟩:=h
    have hp:=pa (fun regs σ K r e=>ih ha e) n h1
    obtain ⟨x,regs2,k⟩:=qh h2
    exact ⟨x,regs2,_,k,hp⟩
 | _=>intro ρ regs σ K r ha h; simp[W5] at ha
def ia (X:Ext):Prop:=∀ f g,X f=some g → ∀ args σ v σ',g args σ=some (v,σ')→σ <+: σ'
theorem zd {X:Ext} (hX:ia X) {H:FuncId→Hints}:∀ (d k:Nat) (f:FuncId) (args:List Value) (σ:Aa) (v:Value) (σ':Aa),yS P d f=true→fn P X H k f args σ=some (v,σ')→σ <+: σ'
 | 0,_,_,_,_,_,_,h,_=>by cases h
 | d+1,0,_,_,_,_,_,_,h=>by cases h
 | d+1,k+1,f,args,σ,v,σ',ha,h=>by
   have ih:=zd hX (H:=H) d k
   simp only[yS] at ha
   have hny:Nat.beq f YF=false:=by
    cases hb:Nat.beq f YF with
    | true=>rw[hb] at ha; cases ha
    | false=>rfl
   simp only[fn,hny,cond_false] at h ha
   split at h
   ·rename_i g hg
    exact hX f g hg args σ v σ' h
   ·split at h
    ·cases h
    ·rename_i F hF
     simp only[hF] at ha
     split at h
     ·cases h
     ·rename_i c hb
      rw[hb] at ha
      simp only at ha
      split at h
      ·cases h
      ·obtain ⟨x,regs',σ1,hK,hp⟩:=Aat ih c ha h
       have:σ'=σ1:=by
        unfold fin at hK
        split at hK
        ·cases hK
        ·simp only[Option.bind_eq_some_iff] at hK
         obtain ⟨vs,_,hK⟩:=hK
         cases hK; rfl
       rw[this]; exact hp
end Go.AX
end
