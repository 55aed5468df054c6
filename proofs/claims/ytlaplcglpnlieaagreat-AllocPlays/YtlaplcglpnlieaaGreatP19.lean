/- The document's heap: objects put into the list and cut from it.; The document's heap: words, pins, forwards; objects removed.; The document's heap: ob -/
import Derived.Test.YtlaplcglpnlieaaGreatP18
import Derived.Test.YtlaplcglpnlieaaGreatP15
set_option linter.unusedVariables false
set_option linter.unusedSimpArgs false
set_option linter.unusedSectionVars false
section
namespace Go.Proofs.YtlaplcglpnlieaaGreat
open Go Go.AX
noncomputable local instance qRY:Bb:=Az
local instance zn:Kn:=⟨true⟩
variable {σ:Aa} {m:HM} {t:RM} {i:RI}
theorem eQ {ρ:Type} {x:Option Value} {d top v:Nat} (h:x=some (.int .i64 (v:Int))∨(x=none∧d=v)) (hv:v≤top) (K:Nat→Option ρ):bound x d top K=K v:=by
 rcases h with rfl | ⟨rfl,rfl⟩
 ·show (if 0≤(v:Int)∧(v:Int)≤(top:Int) then K (v:Int).toNat else none)=K v
  rw[if_pos (by omega),Int.toNat_natCast]
 ·rfl
theorem oO {E:TypeId} {s:Nat} {sl0:EJ} {n0:Nat} {row0:List Value} (h0:BU E s σ sl0 n0 row0) (lo hi:Nat) (hlh:lo≤hi) (hh:hi≤n0) (L H:Option Value) (hL:L=some (.int .i64 (lo:Int))∨(L=none∧0=lo)) (hH:H=some (.int .i64 (hi:Int))∨(H=none∧n0=hi)):
  ∃ src c,Md E s (sl0.1,n0,n0) L H none σ=some (src,hi-lo,c)∧Fu σ s src (hi-lo)=some ((row0.drop (lo*s)).take ((hi-lo)*s)):=by
 unfold Md
 simp only[Option.isSome_none,Bool.not_false,Bool.true_or,cond_true]
 rw[eQ (v:=n0) (.inr ⟨rfl,rfl⟩) (Nat.le_refl _),eQ hH hh,eQ hL hlh]
 rcases h0 with ⟨rfl,rfl,rfl⟩ | ⟨b,rfl,_,hl,hcell⟩
 ·have e1:hi=0:=by omega
  have e2:lo=0:=by omega
  subst e1; subst e2
  exact ⟨none,0,by simp,by simp[Fu]⟩
 ·have e1:elemAt σ b=some E:=by simp only[elemAt,hcell]
  have ld:∀ o n,o+n≤row0.length→R5 σ b o n=some ((row0.drop o).take n):=fun o n h=>by simp only[R5,hcell]; rw[if_pos h]
  by_cases e:n0=lo
  ·have e2:hi-lo=0:=by omega
   refine ⟨some ⟨b,0,none⟩,0, ?_, ?_⟩
   ·rw[if_pos e,e2]
    simp only[cond_false,e1,if_true]
   ·rw[e2,Nat.zero_mul]
    simp only[Fu,Nat.zero_mul]
    rw[ld 0 0 (by omega)]; rfl
  ·refine ⟨some ⟨b,0+lo*s,none⟩,n0-lo, ?_, ?_⟩
   ·rw[if_neg e]
    simp only[Option.bind_some,e1,if_true]
   ·simp only[Fu,Nat.zero_add]
    refine ld _ _ ?_
    rw[hl,← Nat.add_mul]
    exact Nat.mul_le_mul_right _ (by omega)
theorem uX {b o:Nat} {cs:List Value} {T:TypeId} (h:σ[b]?=some (.cells cs T true)) (ho:o≤cs.length):Ip σ b o []=some σ:=by
 simp only[Ip,h,List.length_nil,Nat.add_zero,ho,if_true,AN,List.append_nil,List.take_append_drop]
 rw[UI h]
theorem WO {E:TypeId} {s by_:Nat} {z:Value} (hs:Ik P E=some s) (hb:bytesOf P E=some by_) (hz:Fj P E=some z) (hz1:IZ z=false) (hz2:z.cells.size=s) (hs0:0<s)
  (σ:Aa) (sl:EJ) (n:Nat) (row:List Value) (src:Option Addr) (c:Nat) (hsl:BU E s σ sl n row) (hx:Fu σ s src 0=some []):
  Be P E sl (src,0,c) σ=some (sl,σ):=by
 unfold Be Td
 simp only[hs,hb,hz,Option.bind_some,hx]
 have h1:(¬ (IZ z=false∧some s=some z.cells.size∧0<z.cells.size))=False:=by
  rw[hz1,hz2]; simp[hs0]
 simp only[h1,if_false]
 rcases hsl with ⟨rfl,rfl,rfl⟩ | ⟨b,rfl,hp,hl,hcell⟩
 ·simp only[Nat.add_zero,Nat.le_refl,if_true,LS,cond_true,tS]
 ·simp only[Nat.add_zero,Nat.le_refl,if_true,LS,Option.isSome_none,cond_false,Option.bind_some,Nat.zero_add]
  rw[uX hcell (by omega)]
  simp only[Option.bind_some,tS]
theorem Te {E:TypeId} {s by_:Nat} {z:Value} (hs:Ik P E=some s) (hb:bytesOf P E=some by_) (hz:Fj P E=some z) (hz1:IZ z=false) (hz2:z.cells.size=s) (hs0:0<s) (hb0:0<by_) (hb1:by_≤1000)
  (σ τ:Aa) (sl:EJ) (n:Nat) (row:List Value) (hsl:BU E s (σ++τ) sl n row) (hbh:∀ a,sl.1=some a→σ.length≤a.block) {sl0:EJ} {n0:Nat} {row0:List Value} (h0:BU E s (σ++τ) sl0 n0 row0) (lo hi:Nat) (hlh:lo≤hi) (hh:hi≤n0) (hn:n+n0≤1000000)
  (L H:Option Value) (hL:L=some (.int .i64 (lo:Int))∨(L=none∧0=lo)) (hH:H=some (.int .i64 (hi:Int))∨(H=none∧n0=hi)):
  ∃ src,Md E s (sl0.1,n0,n0) L H none (σ++τ)=some src ∧ ∃ s' τ',Be P E sl (src.1,src.2.1,src.2.2) (σ++τ)=some (s',σ++τ')∧BU E s (σ++τ') s' (n+(hi-lo)) (row++(row0.drop (lo*s)).take ((hi-lo)*s))∧(∀ a,s'.1=some a→σ.length≤a.block):=by
 obtain ⟨src,c,e1,e2⟩:=oO h0 lo hi hlh hh L H hL hH
 refine ⟨_,e1, ?_⟩
 have hlen:((row0.drop (lo*s)).take ((hi-lo)*s)).length=(hi-lo)*s:=by
  have hr:row0.length=n0*s:=by
   rcases h0 with ⟨rfl,rfl,rfl⟩ | ⟨b,rfl,_,hl,_⟩
   ·simp
   ·exact hl
  rw[List.length_take,List.length_drop,hr,← Nat.sub_mul]
  exact Nat.min_eq_left (Nat.mul_le_mul_right _ (by omega))
 by_cases hz0:hi-lo=0
 ·rw[hz0,Nat.zero_mul,List.take_zero] at e2
  refine ⟨sl,τ, ?_, ?_,hbh⟩
  ·simp only[hz0]
   exact WO hs hb hz hz1 hz2 hs0 _ sl n row src c hsl e2
  ·rw[hz0,Nat.zero_mul,List.take_zero,List.append_nil]; exact hsl
 ·obtain ⟨s',σ',e,g,h⟩:=UW hs hb hz hz1 hz2 hs0 hb0 hb1 (σ++τ) sl n row src (hi-lo) c _ (by omega) (by omega) hlen hsl e2
  obtain ⟨⟨τ',rfl⟩,h2⟩:=g.behind hbh
  exact ⟨s',τ',e,h,h2⟩
theorem wI:Ik P Ac=some 8:=by kernel_rfl
theorem wH:bytesOf P Ac=some 96:=by kernel_rfl
theorem wK:Fj P Ac=some (.agg #[.int .i64 0,.int .i64 0,.int .i64 0,.int .i64 0,.int .i64 0,.slice none 0 0,.slice none 0 0,.bool false]):=by kernel_rfl
theorem U8:∀ (l l':List RO) (om om':List (EJ × EJ)),om.length=l.length→Hm (l++l') (om++om')=Hm l om++Hm l' om'
 | [],l',[],om',h=>rfl
 | [],l',p::om,om',h=>by simp at h
 | o::l,l',[],om',h=>by simp at h
 | o::l,l',p::om,om',h=>by
   simp only[List.cons_append,Hm,U8 l l' om om' (by simpa using h),List.append_assoc]
theorem T3 (l:List RO) (om:List (EJ × EJ)) (h:om.length=l.length) (a:Nat) (ha:a≤l.length):(Hm l om).take (a*8)=Hm (l.take a) (om.take a)∧(Hm l om).drop (a*8)=Hm (l.drop a) (om.drop a):=by
 have e:Hm l om=Hm (l.take a) (om.take a)++Hm (l.drop a) (om.drop a):=by
  rw[← U8 _ _ _ _ (by simp; omega),List.take_append_drop,List.take_append_drop]
 have hl:(Hm (l.take a) (om.take a)).length=a*8:=by rw[XU _ _ (by simp; omega),List.length_take,Nat.min_eq_left ha]
 rw[e]
 constructor
 ·rw[← hl,List.take_left]
 ·rw[← hl,List.drop_left]
theorem Vw (a b:List (EJ × EJ)):SY (a++b)=SY a++SY b:=by unfold SY; rw[List.flatMap_append]
theorem ah (p:EJ × EJ) (b:List (EJ × EJ)):SY (p::b)=(hs p.1++hs p.2)++SY b:=rfl
theorem R6 (om:List (EJ × EJ)) (x:Nat):SY om=SY (om.take x)++SY (om.drop x):=by rw[← Vw,List.take_append_drop]
theorem bO {lo:Nat} {s:EJ} (h:∀ a,s.1=some a→lo≤a.block) {j:Nat} (hj:j ∈ hs s):lo≤j:=by
 obtain ⟨a,ha,rfl⟩:=H0.1 hj
 exact h a ha
theorem uP (k:Nat) (h:L0 σ i t) (hn:t.ob.length≤5000) {x:Nat} (hx:x<t.ob.length):∃ σ' os',JS (k+1) (AY i) (x:Int) σ=some (.tuple #[],σ')∧L0 σ' { i with os:=os',om:=i.om.eraseIdx x } { t with ob:=t.ob.eraseIdx x }∧HT i { i with os:=os',om:=i.om.eraseIdx x } σ σ'∧(∀ a,os'.1=some a→σ.length≤a.block)∧(∀ j,j<σ.length→j≠i.hb→σ'[j]?=σ[j]?):=by
 have sep:=h.sep
 have hol:=h.ol
 have h0:BU Ac 8 (σ++[]) i.os t.ob.length (Hm t.ob i.om):=by rw[List.append_nil]; exact h.ob
 obtain ⟨src1,e1,s1,τ1,a1,sl1,b1⟩:=Te wI wH wK rfl rfl (by decide) (by decide) (by decide) σ [] (none,0,0) 0 [] (BU.nil _ _ _) (by intro a ha; cases ha) h0 0 x (by omega) (by omega) (by omega) none (some (.int .i64 (x:Int))) (.inr ⟨rfl,rfl⟩) (.inl rfl)
 rw[Nat.zero_mul,List.drop_zero,Nat.sub_zero,List.nil_append,Nat.zero_add,(T3 t.ob i.om hol x (by omega)).1] at sl1
 rw[List.append_nil] at e1 a1
 have hg:=h.app τ1
 obtain ⟨src2,e2,s2,τ2,a2,sl2,b2⟩:=Te wI wH wK rfl rfl (by decide) (by decide) (by decide) σ τ1 s1 x _ sl1 b1 hg.ob (x+1) t.ob.length (by omega) (Nat.le_refl _) (by omega) (some (.int .i64 ((x+1:Nat):Int))) none (.inl rfl) (.inr ⟨rfl,rfl⟩)
 rw[(T3 t.ob i.om hol (x+1) (by omega)).2,List.take_of_length_le (l:=Hm (t.ob.drop (x+1)) (i.om.drop (x+1))) (by rw[XU _ _ (by simp; omega),List.length_drop]; exact Nat.le_refl _),← U8 _ _ _ _ (by simp; omega)] at sl2
 rw[← List.eraseIdx_eq_take_drop_succ,← List.eraseIdx_eq_take_drop_succ,show x+(t.ob.length-(x+1))=(t.ob.eraseIdx x).length from by rw[List.length_eraseIdx_of_lt hx]; omega] at sl2
 have hg2:=h.app τ2
 have hsub:∀ j ∈ SY (i.om.eraseIdx x),j ∈ SY i.om:=by
  intro j hj
  rw[List.eraseIdx_eq_take_drop_succ,Vw] at hj
  rw[R6 i.om x,List.drop_eq_getElem_cons (by omega),ah]
  rcases List.mem_append.1 hj with hj | hj
  ·exact List.mem_append.2 (.inl hj)
  ·exact List.mem_append.2 (.inr (List.mem_append.2 (.inr hj)))
 have hnd:(SY (i.om.eraseIdx x)).Nodup:=by
  have:=sep.D
  rw[R6 i.om x,List.drop_eq_getElem_cons (by omega),ah] at this
  rw[List.eraseIdx_eq_take_drop_succ,Vw]
  exact this.sublist (List.Sublist.append (List.Sublist.refl _) (List.sublist_append_right _ _))
 have hlt:=h.lt
 have hin:∀ {j},j ∈ i.l→j<σ.length:=fun hj=>hlt _ hj
 have hB:∀ j ∈ hs s2,σ.length≤j:=fun j hj=>bO b2 hj
 have mA:∀ j ∈ hs i.bs,j<σ.length:=fun j hj=>hin (RI.Hf.2 (.inr (.inl hj)))
 have mC:∀ j ∈ hs i.fs,j<σ.length:=fun j hj=>hin (RI.Hf.2 (.inr (.inr (.inr (.inl hj)))))
 have mD:∀ j ∈ SY i.om,j<σ.length:=fun j hj=>hin (RI.Hf.2 (.inr (.inr (.inr (.inr hj)))))
 have mh:=hin i.N1
 have sep':Sep { i with os:=s2,om:=i.om.eraseIdx x }:=
  { hA:=sep.hA,hB:=fun hh=>Nat.not_lt.2 (hB _ hh) mh,hC:=sep.hC,hD:=fun hh=>sep.hD (hsub _ hh),
    AB:=fun a ha hh=>by have:=hB _ hh; have:=mA _ ha; omega,AC:=sep.AC,AD:=fun a ha hh=>sep.AD a ha (hsub _ hh),
    BC:=fun a ha hh=>by have:=hB _ ha; have:=mC _ hh; omega,BD:=fun a ha hh=>by have:=hB _ ha; have:=mD _ (hsub _ hh); omega,CD:=fun a ha hh=>sep.CD a ha (hsub _ hh),D:=hnd }
 have hlt2:∀ j ∈ RI.l { i with os:=s2,om:=i.om.eraseIdx x },j<(σ++τ2).length:=by
  intro j hj
  rcases RI.Hf.1 hj with hj | hj | hj | hj | hj
  ·have hj':j=i.hb:=hj
   rw[hj',List.length_append]; omega
  ·have:=mA _ hj; simp; omega
  ·obtain ⟨a,ha,rfl⟩:=H0.1 hj; exact sl2.lt a ha
  ·have:=mC _ hj; simp; omega
  ·have:=mD _ (hsub _ hj); simp; omega
 have hinn:∀ (y:Nat) (h1:y<(t.ob.eraseIdx x).length) (h2:y<(i.om.eraseIdx x).length),Ir (σ++τ2) (i.om.eraseIdx x)[y].1 (t.ob.eraseIdx x)[y].refs∧Ir (σ++τ2) (i.om.eraseIdx x)[y].2 (t.ob.eraseIdx x)[y].data:=by
  intro y h1 h2
  rw[List.getElem_eraseIdx,List.getElem_eraseIdx]
  split
  ·exact hg2.inn y (by omega) (by omega)
  ·have hl:=List.length_eraseIdx_of_lt hx
   exact hg2.inn (y+1) (by omega) (by omega)
 have hR:=L0.pI (i:={ i with os:=s2,om:=i.om.eraseIdx x }) (t:={ t with ob:=t.ob.eraseIdx x }) hg2.bl sl2 hg2.fw (by show (i.om.eraseIdx x).length=(t.ob.eraseIdx x).length; rw[List.length_eraseIdx_of_lt hx,List.length_eraseIdx_of_lt (by omega),hol]) hinn sep' hlt2
 refine ⟨_,s2, ?_,hR,⟨by simp,fun j hj hn=>?_,fun j hj=>?_,rfl⟩,b2,fun j hj hne=>?_⟩
 ·rw[Yt,Up]
  have w:Ae ((x:Int)+1)=((x+1:Nat):Int):=Ad (by unfold AV; omega)
  have est:AX.Gn (σ++τ2) i.hb 1 (.slice s2.1 s2.2.1 s2.2.2)=some ((σ++τ2).set i.hb (.cells [.slice i.bs.1 i.bs.2.1 i.bs.2.2,.slice s2.1 s2.2.1 s2.2.2,.slice i.fs.1 i.fs.2.1 i.fs.2.2,.int .i64 t.born] Cn true)):=by
   simp[AX.Gn,hg2.hp]
  simp only[Option.bind_some,Nat.zero_add,h.HA,e1,a1,hg.HA,w,e2,a2,est]
 ·have:i.hb≠j:=fun e=>hn (by rw[← e]; exact i.N1)
  rw[List.getElem?_set_ne this,List.getElem?_append_left hj]
 ·rcases RI.Hf.1 hj with hj | hj | hj | hj | hj
  ·exact .inl (by rw[hj]; exact i.N1)
  ·exact .inl (RI.Hf.2 (.inr (.inl hj)))
  ·exact .inr (hB _ hj)
  ·exact .inl (RI.Hf.2 (.inr (.inr (.inr (.inl hj)))))
  ·exact .inl (RI.Hf.2 (.inr (.inr (.inr (.inr (hsub _ hj))))))
 ·rw[List.getElem?_set_ne (Ne.symm hne),List.getElem?_append_left hj]
theorem gx (k:Nat) (h:L0 σ i t) (hn:t.ob.length≤5000) {q:Nat} {a:Int} (hq:Ak .i64 σ q 0=some a):∀ (n x f:Nat),x+n=t.ob.length→n<f→EP k f (AY i) q (x:Int) σ=some (.exit 0,[.int .i64 ((x+Vz (t.ob.drop x) a:Nat):Int)],σ)
 | 0,x,0,hx,hf=>by omega
 | 0,x,f+1,hx,hf=>by
   rw[OH,MB,List.drop_eq_nil_of_le (by omega)]
   simp only[Option.bind_some,Nat.zero_add,h.HA,decide_eq_false (show ¬ (x:Int)<((t.ob.length:Nat):Int) by omega),cond_false,Vz,Nat.add_zero]
 | n+1,x,0,hx,hf=>by omega
 | n+1,x,f+1,hx,hf=>by
   have hxl:x<t.ob.length:=by omega
   obtain ⟨b,e,hc,L⟩:=h.obj hxl
   have L:=L (by rw[h.ol]; exact hxl)
   have qx:(0≤(x:Int)∧(x:Int)<((t.ob.length:Nat):Int))=True:=eq_true (by omega)
   have w1:Ae ((x:Int)+1)=((x+1:Nat):Int):=Ad (by unfold AV; omega)
   rw[OH,MB,List.drop_eq_getElem_cons hxl,Vz]
   simp only[Option.bind_some,Nat.zero_add,Nat.add_zero,h.HA,decide_eq_true (show (x:Int)<((t.ob.length:Nat):Int) by omega),cond_true,qx,if_true,e,Int.toNat_natCast,L.l0,hq]
   by_cases g:t.ob[x].addr<a
   ·rw[decide_eq_true g,if_pos g]
    simp only[cond_true,w1]
    rw[gx k h hn hq n (x+1) f (by omega) (by omega),show x+1+Vz (t.ob.drop (x+1)) a=x+(Vz (t.ob.drop (x+1)) a+1) from by omega]
   ·rw[decide_eq_false g,if_neg g]
    simp only[cond_false,Nat.add_zero]
theorem cD {α:Type} (l:List α) (n:Nat) (hn:n≤l.length) (a:α) (y:Nat) (hy:y<(l.take n++a::l.drop n).length):(l.take n++a::l.drop n)[y]=if h:y<n then l[y] else if h2:y=n then a else l[y-1]'(by simp at hy; omega):=by
 have hl:(l.take n).length=n:=by rw[List.length_take]; omega
 split
 ·rename_i h
  rw[List.getElem_append_left (by omega),List.getElem_take]
 ·split
  ·rename_i h h2
   subst h2
   rw[List.getElem_append_right (by omega)]
   simp only[hl,Nat.sub_self,List.getElem_cons_zero]
  ·rename_i h h2
   obtain ⟨d,rfl⟩:∃ d,y=n+1+d:=⟨y-n-1,by omega⟩
   rw[List.getElem_append_right (by omega)]
   simp only[hl,show n+1+d-n=d+1 from by omega,List.getElem_cons_succ,List.getElem_drop]
   congr 1
   omega
theorem uS (k:Nat) (hk:5000≤k) (h:L0 σ i t) (hn:t.ob.length≤4900) (o:RO) (p:EJ × EJ) (hp1:Ir σ p.1 o.refs) (hp2:Ir σ p.2 o.data) (hpl:∀ j,j ∈ hs p.1∨j ∈ hs p.2→j<σ.length∧j ∉ i.l) (hpn:(hs p.1++hs p.2).Nodup):
  ∃ σ' os',HQ (k+1) (AY i) o.addr o.id o.r o.d o.k p.1 p.2 o.pin σ=some (.tuple #[],σ')∧L0 σ' { i with os:=os',om:=i.om.take (Vz t.ob o.addr)++p::i.om.drop (Vz t.ob o.addr) } { t with ob:=X9 t.ob o } ∧
   (∀ j,j<σ.length→j≠i.hb→σ'[j]?=σ[j]?)∧σ.length≤σ'.length∧(∀ a,os'.1=some a→σ.length≤a.block)∧(∀ j,j ∈ RI.l { i with os:=os',om:=i.om.take (Vz t.ob o.addr)++p::i.om.drop (Vz t.ob o.addr) }→j ∈ i.l∨j ∈ hs p.1∨j ∈ hs p.2∨σ.length≤j):=by
 have sep:=h.sep
 have hol:=h.ol
 obtain ⟨n,hN⟩:∃ n,Vz t.ob o.addr=n:=⟨_,rfl⟩
 have hnl:n≤t.ob.length:=by rw[← hN]; exact pM _ _
 obtain ⟨B,hB⟩:∃ B,AJ.cells (Bt o p) Ac true=B:=⟨_,rfl⟩
 have hb:=h.app [B]
 have lq:∀ (τ:Aa) (x:Nat),Ak .i64 (σ++([B]++τ)) σ.length x=((Bt o p)[x]?).bind (Bu .i64):=fun τ x=>by rw[← hB]; simp[Ak,Gr]
 have lqs:∀ (τ:Aa) (x:Nat),Cr (σ++([B]++τ)) σ.length x=((Bt o p)[x]?).bind Gp:=fun τ x=>by rw[← hB]; simp[Cr,Gr]
 have lqb:∀ (τ:Aa) (x:Nat),UP (σ++([B]++τ)) σ.length x=((Bt o p)[x]?).bind CT:=fun τ x=>by rw[← hB]; simp[UP,Gr]
 have e0:=gx k hb (by show t.ob.length≤5000; omega) (q:=σ.length) (a:=o.addr) (by have:=lq [] 0; rw[List.append_nil] at this; rw[this]; rfl) t.ob.length 0 k (by omega) (by omega)
 rw[List.drop_zero,Nat.zero_add,hN] at e0
 have e0':EP k k (AY i) σ.length 0 (σ++[B])=_:=e0
 obtain ⟨src1,e1,s1,τ1,a1,sl1,b1⟩:=Te wI wH wK rfl rfl (by decide) (by decide) (by decide) (σ++[B]) [] (none,0,0) 0 [] (BU.nil _ _ _) (by intro a ha; cases ha) (by rw[List.append_nil]; exact hb.ob) 0 n (by omega) hnl (by omega) none (some (.int .i64 (n:Int))) (.inr ⟨rfl,rfl⟩) (.inl rfl)
 rw[Nat.zero_mul,List.drop_zero,Nat.sub_zero,List.nil_append,Nat.zero_add,(T3 t.ob i.om hol n hnl).1] at sl1
 rw[List.append_nil] at e1 a1
 obtain ⟨s2,τ2,a2,sl2,b2⟩:=Of wI wH wK rfl rfl (by decide) (by decide) (by decide) (σ++[B]) τ1 s1 n _ 1 1 (Bt o p) Ac (by omega) (by decide) rfl sl1 b1
 have a2':Be P Ac (s1.1,s1.2.1,s1.2.2) (some ⟨(σ++[B]++τ1).length,0,none⟩,1,1) (σ++[B]++τ1++[AJ.cells [.int .i64 o.addr,.int .i64 o.id,.int .i64 o.r,.int .i64 o.d,.int .i64 o.k,.slice p.1.1 p.1.2.1 p.1.2.2,.slice p.2.1 p.2.2.1 p.2.2.2,.bool o.pin] Ac true])=some (s2,σ++[B]++τ2):=a2
 have hg2:=hb.app τ2
 obtain ⟨src3,e3,s3,τ3,a3,sl3,b3⟩:=Te wI wH wK rfl rfl (by decide) (by decide) (by decide) (σ++[B]) τ2 s2 (n+1) _ sl2 b2 hg2.ob n t.ob.length hnl (Nat.le_refl _) (by omega) (some (.int .i64 (n:Int))) none (.inl rfl) (.inr ⟨rfl,rfl⟩)
 rw[(T3 t.ob i.om hol n hnl).2,List.take_of_length_le (l:=Hm (t.ob.drop n) (i.om.drop n)) (by rw[XU _ _ (by simp; omega),List.length_drop]; exact Nat.le_refl _),List.append_assoc (Hm (t.ob.take n) (i.om.take n)) (Bt o p),show Bt o p++Hm (t.ob.drop n) (i.om.drop n)=Hm (o::t.ob.drop n) (p::i.om.drop n) from rfl,← U8 _ _ _ _ (by simp; omega)] at sl3
 have hins:X9 t.ob o=t.ob.take n++o::t.ob.drop n:=by unfold X9; rw[hN]
 have hlen:(X9 t.ob o).length=n+1+(t.ob.length-n):=by rw[hins]; simp; omega
 rw[← hins,← hlen,List.append_assoc] at sl3
 have hg3:=h.app ([B]++τ3)
 have hlt:=h.lt
 have hin:∀ {j},j ∈ i.l→j<σ.length:=fun hj=>hlt _ hj
 have hB3:∀ j ∈ hs s3,σ.length≤j:=fun j hj=>by have:=bO b3 hj; simp at this; omega
 have mA:∀ j ∈ hs i.bs,j<σ.length:=fun j hj=>hin (RI.Hf.2 (.inr (.inl hj)))
 have mC:∀ j ∈ hs i.fs,j<σ.length:=fun j hj=>hin (RI.Hf.2 (.inr (.inr (.inr (.inl hj)))))
 have mD:∀ j ∈ SY i.om,j<σ.length:=fun j hj=>hin (RI.Hf.2 (.inr (.inr (.inr (.inr hj)))))
 have mh:=hin i.N1
 have mem_om:∀ j,j ∈ SY (i.om.take n++p::i.om.drop n)↔j ∈ SY i.om∨j ∈ hs p.1∨j ∈ hs p.2:=by
  intro j
  rw[Vw,ah,R6 i.om n]
  simp only[List.mem_append]
  constructor
  ·rintro (h | (h | h) | h)
   ·exact .inl (.inl h)
   ·exact .inr (.inl h)
   ·exact .inr (.inr h)
   ·exact .inl (.inr h)
  ·rintro ((h | h) | h | h)
   ·exact .inl h
   ·exact .inr (.inr h)
   ·exact .inr (.inl (.inl h))
   ·exact .inr (.inl (.inr h))
 have hnd:(SY (i.om.take n++p::i.om.drop n)).Nodup:=by
  have hD:=sep.D
  rw[R6 i.om n] at hD
  obtain ⟨d1,d2,d3⟩:=List.nodup_append.1 hD
  have out:∀ j,j ∈ hs p.1++hs p.2→j ∉ SY i.om:=fun j hj hm=>(hpl j (List.mem_append.1 hj)).2 (RI.Hf.2 (.inr (.inr (.inr (.inr hm)))))
  rw[Vw,ah]
  refine List.nodup_append.2 ⟨d1,List.nodup_append.2 ⟨hpn,d2, ?_⟩, ?_⟩
  ·intro a ha b hb' e
   subst e
   exact out a ha (by rw[R6 i.om n]; exact List.mem_append.2 (.inr hb'))
  ·intro a ha b hb' e
   subst e
   rcases List.mem_append.1 hb' with hb' | hb'
   ·exact out a hb' (by rw[R6 i.om n]; exact List.mem_append.2 (.inl ha))
   ·exact d3 a ha a hb' rfl
 have pout:∀ {j},j ∈ SY (i.om.take n++p::i.om.drop n)→j<σ.length:=fun hj=>by
  rcases (mem_om _).1 hj with hj | hj
  ·exact mD _ hj
  ·exact (hpl _ hj).1
 have pne:∀ {j},j ∈ i.hb::(hs i.bs++hs i.fs)→j ∉ SY (i.om.take n++p::i.om.drop n):=fun {j} hj hm=>by
  rcases (mem_om _).1 hm with hm | hm
  ·rcases List.mem_cons.1 hj with e | hj
   ·exact sep.hD (e ▸ hm)
   ·rcases List.mem_append.1 hj with hj | hj
    ·exact sep.AD _ hj hm
    ·exact sep.CD _ hj hm
  ·refine (hpl _ hm).2 ?_
   rcases List.mem_cons.1 hj with e | hj
   ·rw[e]; exact i.N1
   ·rcases List.mem_append.1 hj with hj | hj
    ·exact RI.Hf.2 (.inr (.inl hj))
    ·exact RI.Hf.2 (.inr (.inr (.inr (.inl hj))))
 rw[hN]
 have sep':Sep { i with os:=s3,om:=i.om.take n++p::i.om.drop n }:=
  { hA:=sep.hA,hB:=fun hh=>Nat.not_lt.2 (hB3 _ hh) mh,hC:=sep.hC,hD:=fun hh=>pne (List.mem_cons_self) hh,
    AB:=fun a ha hh=>by have:=hB3 _ hh; have:=mA _ ha; omega,AC:=sep.AC,AD:=fun a ha hh=>pne (List.mem_cons_of_mem _ (List.mem_append.2 (.inl ha))) hh,
    BC:=fun a ha hh=>by have:=hB3 _ ha; have:=mC _ hh; omega,BD:=fun a ha hh=>by have:=hB3 _ ha; have:=pout hh; omega,CD:=fun a ha hh=>pne (List.mem_cons_of_mem _ (List.mem_append.2 (.inr ha))) hh,D:=hnd }
 have hlt2:∀ j ∈ RI.l { i with os:=s3,om:=i.om.take n++p::i.om.drop n },j<(σ++([B]++τ3)).length:=by
  intro j hj
  rcases RI.Hf.1 hj with hj | hj | hj | hj | hj
  ·have hj':j=i.hb:=hj
   rw[hj',List.length_append]; omega
  ·have:=mA _ hj; simp; omega
  ·obtain ⟨a,ha,rfl⟩:=H0.1 hj; exact sl3.lt a ha
  ·have:=mC _ hj; simp; omega
  ·have:=pout hj; simp; omega
 have hinn:∀ (y:Nat) (h1:y<(X9 t.ob o).length) (h2:y<(i.om.take n++p::i.om.drop n).length),Ir (σ++([B]++τ3)) (i.om.take n++p::i.om.drop n)[y].1 (X9 t.ob o)[y].refs∧Ir (σ++([B]++τ3)) (i.om.take n++p::i.om.drop n)[y].2 (X9 t.ob o)[y].data:=by
  intro y h1 h2
  simp only[hins] at h1 ⊢
  rw[cD t.ob n hnl o y h1,cD i.om n (by omega) p y h2]
  have hl1:(t.ob.take n++o::t.ob.drop n).length=t.ob.length+1:=by simp; omega
  by_cases c1:y<n
  ·simp only[c1,dite_true]
   exact hg3.inn y (by omega) (by omega)
  ·by_cases c2:y=n
   ·simp only[c1,c2,dite_false,dite_true,Nat.lt_irrefl]
    exact ⟨hp1.app _,hp2.app _⟩
   ·simp only[c1,c2,dite_false]
    exact hg3.inn (y-1) (by omega) (by omega)
 have hR:=L0.pI (i:={ i with os:=s3,om:=i.om.take n++p::i.om.drop n }) (t:={ t with ob:=X9 t.ob o }) hg3.bl sl3 hg3.fw (by show (i.om.take n++p::i.om.drop n).length=(X9 t.ob o).length; rw[hlen]; simp; omega) hinn sep' hlt2
 refine ⟨_,s3, ?_,hR,fun j hj hne=>?_,by simp,fun a ha=>by have:=b3 a ha; simp at this; omega,fun j hj=>?_⟩
 ·rw[Yu,Uq]
  have est:AX.Gn (σ++([B]++τ3)) i.hb 1 (.slice s3.1 s3.2.1 s3.2.2)=some ((σ++([B]++τ3)).set i.hb (.cells [.slice i.bs.1 i.bs.2.1 i.bs.2.2,.slice s3.1 s3.2.1 s3.2.2,.slice i.fs.1 i.fs.2.1 i.fs.2.2,.int .i64 t.born] Cn true)):=by
   have hh:=hg3.hp
   generalize σ++([B]++τ3)=μ at hh ⊢
   simp[AX.Gn,hh]
  have c0:∀ τ,Ak .i64 (σ++[B]++τ) σ.length 0=some o.addr:=fun τ=>by rw[List.append_assoc,lq]; rfl
  have c1:∀ τ,Ak .i64 (σ++[B]++τ) σ.length 1=some o.id:=fun τ=>by rw[List.append_assoc,lq]; rfl
  have c2:∀ τ,Ak .i64 (σ++[B]++τ) σ.length 2=some o.r:=fun τ=>by rw[List.append_assoc,lq]; rfl
  have c3:∀ τ,Ak .i64 (σ++[B]++τ) σ.length 3=some o.d:=fun τ=>by rw[List.append_assoc,lq]; rfl
  have c4:∀ τ,Ak .i64 (σ++[B]++τ) σ.length 4=some o.k:=fun τ=>by rw[List.append_assoc,lq]; rfl
  have c5:∀ τ,Cr (σ++[B]++τ) σ.length 5=some (p.1.1,p.1.2.1,p.1.2.2):=fun τ=>by rw[List.append_assoc,lqs]; rfl
  have c6:∀ τ,Cr (σ++[B]++τ) σ.length 6=some (p.2.1,p.2.2.1,p.2.2.2):=fun τ=>by rw[List.append_assoc,lqs]; rfl
  have c7:∀ τ,UP (σ++[B]++τ) σ.length 7=some o.pin:=fun τ=>by rw[List.append_assoc,lqb]; rfl
  have hBox:AJ.cells [.int .i64 o.addr,.int .i64 o.id,.int .i64 o.r,.int .i64 o.d,.int .i64 o.k,.slice p.1.1 p.1.2.1 p.1.2.2,.slice p.2.1 p.2.2.1 p.2.2.2,.bool o.pin] Ac true=B:=hB
  rw[← List.append_assoc] at est
  simp only[An,hBox,e0',Option.bind_some,if_true,DQ,Nat.zero_add,Nat.add_assoc,Nat.reduceAdd,hb.HA,e1,a1,c0,c1,c2,c3,c4,c5,c6,c7]
  rw[← hBox] at a2' ⊢
  simp only[a2',Option.bind_some]
  rw[hBox]
  simp only[hg2.HA,e3,a3,Option.bind_some,est]
  simp only[List.append_assoc]
 ·rw[List.getElem?_set_ne (Ne.symm hne),List.getElem?_append_left hj]
 ·rcases RI.Hf.1 hj with hj | hj | hj | hj | hj
  ·exact .inl (by rw[hj]; exact i.N1)
  ·exact .inl (RI.Hf.2 (.inr (.inl hj)))
  ·exact .inr (.inr (.inr (hB3 _ hj)))
  ·exact .inl (RI.Hf.2 (.inr (.inr (.inr (.inl hj)))))
  ·rcases (mem_om _).1 hj with hj | hj | hj
   ·exact .inl (RI.Hf.2 (.inr (.inr (.inr (.inr hj)))))
   ·exact .inr (.inl hj)
   ·exact .inr (.inr (.inl hj))
end Go.Proofs.YtlaplcglpnlieaaGreat
end
section
namespace Go.Proofs.YtlaplcglpnlieaaGreat
open Go Go.AX
noncomputable local instance qRZ:Bb:=Az
local instance zo:Kn:=⟨true⟩
variable {σ:Aa} {m:HM} {t:RM} {i:RI}
theorem tr (k:Nat) (hk:5000≤k) (h:RG σ i m t) (hP:Pt m) (hS:Sh m) (a:Int):Is (FW (k+4) (AY i) a σ) σ i (.int .i64 (Rh m a).1) (Rh m a).2:=by
 have hol:=h.ol
 rw[Xe,Tn]
 have hix:=OQ (k+1) (by omega) h a
 simp only[XD k hk h a,Option.bind_some,Am]
 unfold Rh
 cases hh:I0 m a with
 | false=>
   simp only[Bool.false_eq_true,if_false,vY,cond_true]
   exact Is.TA h hP rfl
 | true=>
   obtain ⟨x,j,b,p,F⟩:=h.found hh
   obtain ⟨σ',os',e,h',k',_,_⟩:=uP (k+2) h.at_ (by omega) F.xl
   have ea:a.toNat/2=j:=by rw[F.e,Int.toNat_natCast]; omega
   obtain ⟨s1,s2⟩:=h.sim.kill h.inv hS hP F.st F.all
   rw[ea]
   simp only[if_true,bne_self_eq_false,cond_false,hix,Option.bind_some,Am,F.idx,e,KE]
   exact ⟨σ',_,_,rfl,h',s1,s2,k'⟩
end Go.Proofs.YtlaplcglpnlieaaGreat
end
section
namespace Go.Proofs.YtlaplcglpnlieaaGreat
open Go Go.AX
noncomputable local instance qSA:Bb:=Az
local instance zp:Kn:=⟨true⟩
variable {σ:Aa} {m:HM} {t:RM} {i:RI}
theorem L0.uT (h:L0 σ i t) (v:Int):∃ c,AX.Gn σ i.hb 3 (.int .i64 v)=some (σ.set i.hb c)∧L0 (σ.set i.hb c) i { t with born:=v }:=
 ⟨_,by simp only[AX.Gn,h.hp]; rfl,L0.pI (t:={ t with born:=v }) h.bl h.ob h.fw h.ol h.inn h.sep h.lt⟩
theorem uQ (n:Nat):rep n [Value.int .i64 0]=CN (List.replicate n 0):=by
 simp[rep,CN]
theorem jz (k:Nat) (hk:5000≤k) (h:RG σ i m t) (hP:Pt m) (hS:Sh m) (hb:m.births<1000000) (a r d c:Int):
  Is (DJ (k+5) (AY i) a r d c σ) σ i (.tuple #[.int .i64 (CC m a r d c).1,.int .i64 (CC m a r d c).2.1]) (CC m a r d c).2.2:=by
 have hnt:=h.nt
 have hwl:=h.wl
 have hol:=h.ol
 have hbr:=h.inv.brt
 obtain ⟨S,hSS⟩:∃ S,AJ.cells [.int .i64 r,.int .i64 d,.int .i64 c] Ag true=S:=⟨_,rfl⟩
 have hg:=h.app [S]
 have hq:(σ++[S])[σ.length]?=some (.cells [.int .i64 r,.int .i64 d,.int .i64 c] Ag true):=by rw[← hSS]; simp
 obtain ⟨b0,b1,b2⟩:=Rp hq
 obtain ⟨τ1,eV⟩:=V1 (k+3) r d c (σ++[S])
 have hg1:=hg.app τ1
 have hq1:(σ++[S]++τ1)[σ.length]?=_:=(List.getElem?_append_left (Af hq)).trans hq
 obtain ⟨d0,d1,d2⟩:=Rp hq1
 have eM:Ai (k+4) (AY i) (σ++[S])=_:=FD (k+3) hg
 rw[Wk,RR]
 simp only[An,hSS,eM,Option.bind_some,Ao,Bool.not_true,cond_false,Nat.zero_add,Nat.reduceAdd,Nat.add_zero,b0,b1,b2,eV]
 unfold CC
 cases hv:valid r d c with
 | false=>
   simp only[Bool.not_false,cond_true,Bool.false_eq_true,if_false]
   exact Is.same h hP ([S]++τ1) (by rw[← List.append_assoc])
 | true=>
 obtain ⟨τ2,eF⟩:=tB k hk hg1 a (-1) 0 hv (fun o ho=>by
  have:=(h.inv.idn o ho).1
  constructor
  ·intro e; omega
  ·intro e; omega)
 simp only[Bool.not_true,cond_false,if_true,d0,d1,d2,Option.bind_some,eF,Am]
 by_cases hf:OK m a (UQ (num r d c)) (-1)=0
 rotate_left
 ·rw[if_neg hf]
  simp only[bne_iff_ne.2 hf,cond_true]
  exact Is.same h hP ([S]++τ1++τ2) (by simp only[← List.append_assoc])
 rw[if_pos hf]
 have hw2:2≤UQ (num r d c):=by
  have hv':=hv
  rw[Qb hv]
  simp[valid] at hv'
  omega
 obtain ⟨j,rfl,hj,hfit,hap⟩:=h.inv.fits hwl (gN _) hw2 hf
 rw[show ((2*j:Nat):Int).toNat/2=j from by omega]
 obtain ⟨s1,s2⟩:=h.sim.place h.inv h.inv2 hS hP hv hj (fun o ho=>hap o ho (by omega))
 have hg2:=hg1.app τ2
 obtain ⟨C,eS,h4⟩:=hg2.at_.uT (t.born+1)
 have hq2:(σ++[S]++τ1++τ2)[σ.length]?=_:=(List.getElem?_append_left (Af hq1)).trans hq1
 have hhb:i.hb<σ.length:=h.at_.lt _ i.N1
 have hq3:((σ++[S]++τ1++τ2).set i.hb C)[σ.length]?=_:=(List.getElem?_set_ne (show i.hb≠σ.length by omega)).trans hq2
 have hlen:((σ++[S]++τ1++τ2).set i.hb C).length=σ.length+1+τ1.length+τ2.length:=by simp; omega
 have hs4:∀ x,x<σ.length→x≠i.hb→((σ++[S]++τ1++τ2).set i.hb C)[x]?=σ[x]?:=fun x hx hne=>by
  rw[List.getElem?_set_ne (Ne.symm hne),List.append_assoc,List.append_assoc,List.getElem?_append_left hx]
 have ld3':=hg2.at_.uE
 generalize (σ++[S]++τ1++τ2).set i.hb C=μ at h4 eS hq3 hlen hs4
 obtain ⟨c0,c1,c2⟩:=Rp hq3
 have hv':=hv
 simp[valid] at hv'
 obtain ⟨rn,rfl⟩:∃ n:Nat,r=(n:Int):=⟨r.toNat,by omega⟩
 obtain ⟨dn,rfl⟩:∃ n:Nat,d=(n:Int):=⟨d.toNat,by omega⟩
 have w:Ae (t.born+1)=t.born+1:=Ad (by rw[h.sim.born]; unfold AV; omega)
 have qr:(0≤(rn:Int)∧(rn:Int)≤(rn:Int)∧(rn:Int)*((8:Nat):Int)≤2 ^ 40∧(rn:Int)≤2 ^ 40)=True:=eq_true (by omega)
 have qd:(0≤(dn:Int)∧(dn:Int)≤(dn:Int)∧(dn:Int)*((8:Nat):Int)≤2 ^ 40∧(dn:Int)≤2 ^ 40)=True:=eq_true (by omega)
 obtain ⟨A,hA⟩:∃ A,AJ.cells (CN (List.replicate rn 0)) AP true=A:=⟨_,rfl⟩
 obtain ⟨D,hD⟩:∃ D,AJ.cells (CN (List.replicate dn 0)) AP true=D:=⟨_,rfl⟩
 have hq5:(μ++[A])[σ.length]?=_:=(List.getElem?_append_left (Af hq3)).trans hq3
 obtain ⟨_,f1,_⟩:=Rp hq5
 have h6:L0 (μ++[A]++[D]) i { t with born:=t.born+1 }:=(h4.app [A]).app [D]
 have gA:(μ++[A]++[D])[μ.length]?=some (.cells (CN (List.replicate rn 0)) AP true):=by rw[hA]; simp
 have gD:(μ++[A]++[D])[(μ++[A]).length]?=some (.cells (CN (List.replicate dn 0)) AP true):=by rw[hD]; simp
 have ltl:∀ x ∈ i.l,x<σ.length:=h.at_.lt
 obtain ⟨σ',os',eP,hR,hsame,hle,hnew,hin⟩:=uS (k+3) (by omega) h6 (by show t.ob.length≤4900; omega) ⟨((2*j:Nat):Int),t.born+1,(rn:Int),(dn:Int),c,List.replicate rn 0,List.replicate dn 0,false⟩ ((some ⟨μ.length,0,none⟩,rn,rn),(some ⟨(μ++[A]).length,0,none⟩,dn,dn))
  ⟨by simp,fun _=>⟨μ.length,rn,by simp,gA⟩,fun a ha=>by cases ha; exact ⟨_,_,_,gA,Nat.zero_le _⟩⟩ ⟨by simp,fun _=>⟨(μ++[A]).length,dn,by simp,gD⟩,fun a ha=>by cases ha; exact ⟨_,_,_,gD,Nat.zero_le _⟩⟩
  (by
   intro x hx
   have:x=μ.length∨x=(μ++[A]).length:=by
    rcases hx with hx | hx
    ·obtain ⟨q,e,rfl⟩:=H0.1 hx
     cases e; exact .inl rfl
    ·obtain ⟨q,e,rfl⟩:=H0.1 hx
     cases e; exact .inr rfl
   refine ⟨?_,fun hm=>?_⟩
   ·have hl:(μ++[A]).length=μ.length+1:=by simp
    have hl2:(μ++[A]++[D]).length=μ.length+2:=by simp
    rcases this with e | e <;> omega
   ·have:=ltl x hm
    have hl:(μ++[A]).length=μ.length+1:=by simp
    rcases ‹x=μ.length∨x=(μ++[A]).length› with e | e <;> omega)
  (by simp[hs])
 have eP':HQ (k+4) (AY i) ((2*j:Nat):Int) (t.born+1) (rn:Int) (dn:Int) c (some ⟨μ.length,0,none⟩,rn,rn) (some ⟨(μ++[A]).length,0,none⟩,dn,dn) false (μ++[A]++[D])=some (.tuple #[],σ'):=eP
 refine ⟨σ',_,_, ?_,hR,s1,s2,⟨by simp at hle; omega,fun x hx hn=>?_,fun x hx=>?_,rfl⟩⟩
 ·simp only[bne_self_eq_false,hf,cond_false,ld3',Option.bind_some,w,eS,h4.uE,c0,c1,c2,qr,if_true,Int.toNat_natCast,uQ,hA,f1,qd,hD,eP',KE]
  have:=hR.uE
  simp only at this
  rw[this,h.sim.born]
  rfl
 ·have hne:x≠i.hb:=fun e=>hn (by rw[e]; exact i.N1)
  rw[hsame x (by simp; omega) hne,List.append_assoc,List.getElem?_append_left (by omega),hs4 x hx hne]
 ·rcases hin x hx with e | e | e | e
  ·exact .inl e
  ·obtain ⟨q,e',rfl⟩:=H0.1 e
   cases e'
   exact .inr (by show σ.length≤μ.length; omega)
  ·obtain ⟨q,e',rfl⟩:=H0.1 e
   cases e'
   exact .inr (by show σ.length≤(μ++[A]).length; simp; omega)
  ·exact .inr (by simp at e; omega)
end Go.Proofs.YtlaplcglpnlieaaGreat
end
section
namespace Go.Proofs.YtlaplcglpnlieaaGreat
open Go Go.AX
noncomputable local instance qSB:Bb:=Az
local instance zq:Kn:=⟨true⟩
variable {σ:Aa} {m:HM} {t:RM} {i:RI}
theorem xU:Ik P Gt=some 2:=by kernel_rfl
theorem xH:bytesOf P Gt=some 16:=by kernel_rfl
theorem xY:Fj P Gt=some (.agg #[.int .i64 0,.int .i64 0]):=by kernel_rfl
end Go.Proofs.YtlaplcglpnlieaaGreat
end
section
namespace Go.Proofs.YtlaplcglpnlieaaGreat
open Go Go.AX
noncomputable local instance qSC:Bb:=Az
local instance zr:Kn:=⟨true⟩
variable {σ:Aa} {m:HM} {t:RM} {i:RI}
theorem qP (n j:Nat):¬ Start (Qy n) j:=by
 rintro ⟨_,h⟩
 have:FI 1 (Qy n).stw j=0:=VJ _ _ _
 omega
theorem UN.new (n:Nat):UN (Qy n) ⟨List.replicate n (0,0),[],[],0⟩:=by
 refine ⟨rfl, ?_,rfl,fun a=>rfl,rfl,trivial,trivial⟩
 have:D1 (Qy n)=[]:=by
  cases h:D1 (Qy n) with
  | nil=>rfl
  | cons j l=>exact absurd (E9.1 (by rw[h]; exact List.mem_cons_self)) (qP n j)
 show []=LW (Qy n)
 unfold LW
 rw[this]; rfl
theorem Pt.new (n:Nat):Pt (Qy n):=fun j _ _=>VJ _ _ _
theorem FZ.new (n:Nat):FZ (Qy n):=by
 intro c _
 show ((List.replicate n ((0:Int),(0:Int))).getD c (0,0)).2=0
 rw[List.getD_eq_getElem?_getD,List.getElem?_replicate]
 split <;> rfl
theorem tu (k:Nat) (b:Int) (hb:¬ (2≤b∧b≤64)) (σ:Aa):Kl (k+1) b σ=some (.tuple #[.pointer none,.int .i64 1],σ):=by
 rw[Xj,WS]
 by_cases h0:b<2
 ·simp only[decide_eq_true h0,cond_true,Option.bind_some]
 ·simp only[decide_eq_false h0,cond_false,Option.bind_some,show decide (b>64)=true from decide_eq_true (by omega),cond_true]
theorem uN (k:Nat) {n:Nat} (h2:2≤n) (h64:n≤64) (σ:Aa):∃ τ i,Kl (k+1) (n:Int) σ=some (.tuple #[.pointer (AY i),.int .i64 0],σ++τ)∧L0 (σ++τ) i ⟨List.replicate n (0,0),[],[],0⟩ ∧ ∀ j ∈ i.l,σ.length≤j:=by
 rw[Xj,WS]
 simp only[show decide ((n:Int)<2)=false from decide_eq_false (by omega),cond_false,show decide ((n:Int)>64)=false from decide_eq_false (by omega),Option.bind_some,An]
 rw[if_pos (by omega)]
 simp only[Int.toNat_natCast,pN]
 obtain ⟨A,hA⟩:∃ A,AJ.cells (Cv (List.replicate n (0,0))) Aq true=A:=⟨_,rfl⟩
 rw[hA]
 refine ⟨[A]++[AJ.cells [.slice (some ⟨σ.length,0,none⟩) n n,.slice none 0 0,.slice none 0 0,.int .i64 0] Cn true],⟨(σ++[A]).length,(some ⟨σ.length,0,none⟩,n,n),(none,0,0),(none,0,0),[]⟩,by rw[List.append_assoc], ?_, ?_⟩
 ·rw[← List.append_assoc]
  refine { hp:=by simp,bl:=.inr ⟨σ.length,by simp,Nat.zero_le _,by rw[Dn]; omega,by rw[List.getElem?_append_left (by simp),← hA]; simp⟩,ob:=.inl ⟨rfl,rfl,rfl⟩,fw:=.inl (.inl ⟨rfl,rfl,rfl⟩),ol:=rfl,inn:=fun x h=>by simp at h,nd:=?_,lt:=?_ }
  ·simp[RI.l,hs]
  ·intro j hj
   simp[RI.l,hs] at hj
   simp
   omega
 ·intro j hj
  simp[RI.l,hs] at hj
  omega
theorem WN {E:TypeId} {s by_:Nat} {z:Value} (hs:Ik P E=some s) (hb:bytesOf P E=some by_) (hz:Fj P E=some z) (hz1:IZ z=false) (hz2:z.cells.size=s) (hs0:0<s) (hb0:0<by_) (hb1:by_≤1000)
  (σ:Aa) (p:Option Addr) (n c:Nat) (hn1:n≤100000) (row:List Value) (hr:row.length=n*s) (hf:Fu (σ++[.cells [] E true]) s p n=some row):
  ∃ s' τ,Be P E (some ⟨σ.length,0,some 0⟩,0,0) (p,n,c) (σ++[.cells [] E true])=some (s',σ++[.cells [] E true]++τ)∧(0<n→s'=(some ⟨σ.length+1,0,none⟩,n,n)∧(σ++[.cells [] E true]++τ)[σ.length+1]?=some (.cells row E true))∧(n=0→s'=(some ⟨σ.length,0,some 0⟩,0,0)):=by
 by_cases h0:n=0
 ·subst h0
  refine ⟨(some ⟨σ.length,0,some 0⟩,0,0),[], ?_,fun h=>absurd h (Nat.lt_irrefl _),fun _=>rfl⟩
  unfold Be Td
  have h1:(¬ (IZ z=false∧some s=some z.cells.size∧0<z.cells.size))=False:=by
   rw[hz1,hz2]; simp[hs0]
  simp only[hs,hb,hz,hf,Option.bind_some,h1,if_false,Nat.add_zero,Nat.le_refl,if_true,LS,Option.isSome_some,cond_true,tS,List.append_nil]
 ·have e:=UX hs hb hz hz1 hz2 hs0 hb0 hb1 σ p n c (by omega) hn1 row hf
  refine ⟨_,[.cells row E true], ?_,fun _=>⟨rfl, ?_⟩,fun h=>absurd h h0⟩
  ·rw[e]; simp
  ·rw[List.getElem?_append_right (by simp)]; simp
theorem Ir.first {s:EJ} {l:List Int} (h:Ir σ s l):Fu σ 1 s.1 l.length=some (CN l):=by
 by_cases hl:l=[]
 ·subst hl
  cases hs:s.1 with
  | none=>rfl
  | some a=>
    obtain ⟨cs,T,w,h1,h2⟩:=h.2.2 a hs
    simp only[Fu,R5,h1,List.length_nil,Nat.zero_mul,Nat.add_zero,h2,if_true,List.take_zero]
    rfl
 ·obtain ⟨b,c,rfl,hc⟩:=h.2.1 hl
  simp only[Fu,R5,hc,GW,Nat.zero_add,Nat.mul_one,Nat.le_refl,if_true,List.drop_zero]
  rw[List.take_of_length_le (by rw[GW]; exact Nat.le_refl _)]
theorem BU.first {E:TypeId} {s n:Nat} {sl:EJ} {row:List Value} (h:BU E s σ sl n row):Fu σ s sl.1 n=some row:=by
 rcases h with ⟨rfl,rfl,rfl⟩ | ⟨b,rfl,_,hl,hc⟩
 ·rfl
 ·simp only[Fu,R5,hc,hl,Nat.zero_add,Nat.le_refl,if_true,List.drop_zero]
  rw[List.take_of_length_le (Nat.le_of_eq hl)]
theorem ja (σ:Aa) (s:EJ) (l:List Int) (hl:l.length≤100000) (h:Ir σ s l):
  ∃ s' τ,Be P AP (some ⟨σ.length,0,some 0⟩,0,0) (s.1,s.2.1,s.2.2) (σ++[.cells [] AP true])=some (s',σ++[.cells [] AP true]++τ)∧Ir (σ++[.cells [] AP true]++τ) s' l∧hs s'≠[] ∧ ∀ j ∈ hs s',j=σ.length∨j=σ.length+1∧j<(σ++[AJ.cells [] AP true]++τ).length:=by
 have hf:=(h.app [.cells [] AP true]).first
 rw[← h.1] at hf
 obtain ⟨s',τ,e,h1,h2⟩:=WN xz xu xB rfl rfl (by decide) (by decide) (by decide) σ s.1 s.2.1 s.2.2 (by rw[h.1]; exact hl) (CN l) (by rw[GW,h.1,Nat.mul_one]) hf
 refine ⟨s',τ,e, ?_, ?_, ?_⟩
 ·by_cases h0:s.2.1=0
  ·rw[h2 h0]
   have hl0:l=[]:=List.length_eq_zero_iff.1 (by rw[← h.1]; exact h0)
   subst hl0
   exact ⟨rfl,fun hn=>absurd rfl hn,fun a ha=>by cases ha; exact ⟨[],AP,true,by rw[List.getElem?_append_left (by simp)]; simp,Nat.le_refl _⟩⟩
  ·obtain ⟨q1,q2⟩:=h1 (by omega)
   rw[q1]
   exact ⟨h.1,fun _=>⟨σ.length+1,s.2.1,by rw[h.1],q2⟩,fun a ha=>by cases ha; exact ⟨_,_,_,q2,Nat.zero_le _⟩⟩
 ·by_cases h0:s.2.1=0
  ·rw[h2 h0]; simp[hs]
  ·rw[(h1 (by omega)).1]; simp[hs]
 ·intro j hj
  by_cases h0:s.2.1=0
  ·rw[h2 h0] at hj; simp[hs] at hj; exact .inl hj
  ·obtain ⟨q1,q2⟩:=h1 (by omega)
   rw[q1] at hj; simp only[hs,List.mem_singleton] at hj
   exact .inr ⟨hj,by rw[hj]; exact Af q2⟩
theorem ao (k:Nat) {lo:Nat} (hil:∀ j ∈ i.l,j<lo) (hn5:t.ob.length≤4900) (hint:∀ (x:Nat) (h:x<t.ob.length),t.ob[x].refs.length≤1000∧t.ob[x].data.length≤1000):∀ (n x f:Nat) (μ:Aa) (i2:RI),L0 μ i t→L0 μ i2 { t with ob:=t.ob.take x }→(∀ j ∈ i2.l,lo≤j)→x+n=t.ob.length→n<f →
  ∃ μ' i2',Ek k f (AY i) i2.hb (x:Int) μ=some (.exit 0,[],μ')∧L0 μ' i2' t∧i2'.hb=i2.hb∧(∀ j ∈ i2'.l,lo≤j)∧(∀ q,q<lo→μ'[q]?=μ[q]?)∧μ.length≤μ'.length
 | 0,x,0,μ,i2,h,g,h2,hx,hf=>by omega
 | 0,x,f+1,μ,i2,h,g,h2,hx,hf=>by
   rw[MV,KY]
   have et:t.ob.take x=t.ob:=List.take_of_length_le (by omega)
   rw[et] at g
   exact ⟨μ,i2,by simp only[Option.bind_some,Nat.zero_add,h.HA,decide_eq_false (show ¬ (x:Int)<((t.ob.length:Nat):Int) by omega),cond_false],g,rfl,h2,fun _ _=>rfl,Nat.le_refl _⟩
 | n+1,x,0,μ,i2,h,g,h2,hx,hf=>by omega
 | n+1,x,f+1,μ,i2,h,g,h2,hx,hf=>by
   have hxl:x<t.ob.length:=by omega
   have hxo:x<i.om.length:=by rw[h.ol]; exact hxl
   obtain ⟨qb,eo,hc,L⟩:=h.obj hxl
   have L:=L hxo
   obtain ⟨n1,n2⟩:=h.inn x hxl hxo
   obtain ⟨z1,z2⟩:=hint x hxl
   obtain ⟨o,ho⟩:∃ o,t.ob[x]=o:=⟨_,rfl⟩
   obtain ⟨p,hp⟩:∃ p,i.om[x]=p:=⟨_,rfl⟩
   rw[ho] at L n1 n2 z1 z2
   rw[hp] at L n1 n2
   have hlo:lo≤μ.length:=by have:=h2 _ i2.N1; have:=g.lt _ i2.N1; omega
   have sep:=g.sep
   have hhb:=g.lt _ i2.N1
   have g2l:∀ j ∈ i2.l,j<μ.length:=g.lt
   have il:∀ j ∈ i.l,j<μ.length:=h.lt
   obtain ⟨μ1,hμ1⟩:∃ μ1,μ++[AJ.cells (Bt o p) Ac true]=μ1:=⟨_,rfl⟩
   have st:Ip (μ++[AJ.cells [.int .i64 0,.int .i64 0,.int .i64 0,.int .i64 0,.int .i64 0,.slice none 0 0,.slice none 0 0,.bool false] Ac true]) μ.length 0 [.int .i64 o.addr,.int .i64 o.id,.int .i64 o.r,.int .i64 o.d,.int .i64 o.k,.slice p.1.1 p.1.2.1 p.1.2.2,.slice p.2.1 p.2.2.1 p.2.2.2,.bool o.pin]=some μ1:=by
    rw[XI,← hμ1]; rfl
   have l1:μ1.length=μ.length+1:=by rw[← hμ1]; simp
   have b1:μ1[μ.length]?=some (.cells (Bt o p) Ac true):=by rw[← hμ1]; simp
   have s1:∀ q,q<μ.length→μ1[q]?=μ[q]?:=fun q hq=>by rw[← hμ1,List.getElem?_append_left hq]
   have n1':Ir μ1 p.1 o.refs:=by rw[← hμ1]; exact n1.app _
   obtain ⟨r1,τ1,a1,i1,_,v1⟩:=ja μ1 p.1 o.refs (by omega) n1'
   obtain ⟨μ2,hμ2⟩:∃ μ2,μ1++[AJ.cells [] AP true]++τ1=μ2:=⟨_,rfl⟩
   rw[hμ2] at a1 i1 v1
   have l2:μ1.length+1≤μ2.length:=by rw[← hμ2]; simp
   have s2:∀ q,q<μ1.length→μ2[q]?=μ1[q]?:=fun q hq=>by rw[← hμ2,List.append_assoc,List.getElem?_append_left hq]
   have b2:μ2[μ.length]?=some (.cells (Bt o p) Ac true):=(s2 _ (by omega)).trans b1
   have bx:(μ1++[AJ.cells [] AP true])[μ.length]?=some (.cells (Bt o p) Ac true):=by rw[List.getElem?_append_left (by omega)]; exact b1
   have xw:Cr (μ1++[AJ.cells [] AP true]) μ.length 5=some (p.1.1,p.1.2.1,p.1.2.2):=by simp only[Cr,Gr,bx]; rfl
   obtain ⟨μ3,hμ3⟩:∃ μ3,μ2.set μ.length (.cells (Bt o (r1,p.2)) Ac true)=μ3:=⟨_,rfl⟩
   have st3:AX.Gn μ2 μ.length 5 (.slice r1.1 r1.2.1 r1.2.2)=some μ3:=by
    simp only[AX.Gn,b2]; rw[if_pos (by simp[Bt]),← hμ3]; rfl
   have l3:μ3.length=μ2.length:=by rw[← hμ3]; simp
   have s3:∀ q,q≠μ.length→μ3[q]?=μ2[q]?:=fun q hq=>by rw[← hμ3,List.getElem?_set_ne (Ne.symm hq)]
   have b3:μ3[μ.length]?=some (.cells (Bt o (r1,p.2)) Ac true):=by rw[← hμ3,List.getElem?_set_self (Af b2)]
   have base3:∀ q,q<μ.length→μ3[q]?=μ[q]?:=fun q hq=>by rw[s3 q (by omega),s2 q (by omega),s1 q hq]
   have n2':Ir μ3 p.2 o.data:=n2.Cx fun q hq=>base3 q (il q (i.OP hxo (.inr (by rw[hp]; exact hq))))
   obtain ⟨r2,τ2,a2,i2',_,v2⟩:=ja μ3 p.2 o.data (by omega) n2'
   obtain ⟨μ4,hμ4⟩:∃ μ4,μ3++[AJ.cells [] AP true]++τ2=μ4:=⟨_,rfl⟩
   rw[hμ4] at a2 i2' v2
   have l4:μ3.length+1≤μ4.length:=by rw[← hμ4]; simp
   have s4:∀ q,q<μ3.length→μ4[q]?=μ3[q]?:=fun q hq=>by rw[← hμ4,List.append_assoc,List.getElem?_append_left hq]
   have b4:μ4[μ.length]?=some (.cells (Bt o (r1,p.2)) Ac true):=(s4 _ (by omega)).trans b3
   have by_:(μ3++[AJ.cells [] AP true])[μ.length]?=some (.cells (Bt o (r1,p.2)) Ac true):=by rw[List.getElem?_append_left (by omega)]; exact b3
   have vr:Cr (μ3++[AJ.cells [] AP true]) μ.length 6=some (p.2.1,p.2.2.1,p.2.2.2):=by simp only[Cr,Gr,by_]; rfl
   obtain ⟨μ5,hμ5⟩:∃ μ5,μ4.set μ.length (.cells (Bt o (r1,r2)) Ac true)=μ5:=⟨_,rfl⟩
   have st5:AX.Gn μ4 μ.length 6 (.slice r2.1 r2.2.1 r2.2.2)=some μ5:=by
    simp only[AX.Gn,b4]; rw[if_pos (by simp[Bt]),← hμ5]; rfl
   have l5:μ5.length=μ4.length:=by rw[← hμ5]; simp
   have s5:∀ q,q≠μ.length→μ5[q]?=μ4[q]?:=fun q hq=>by rw[← hμ5,List.getElem?_set_ne (Ne.symm hq)]
   have b5:μ5[μ.length]?=some (.cells (Bt o (r1,r2)) Ac true):=by rw[← hμ5,List.getElem?_set_self (Af b4)]
   have base5:∀ q,q<μ.length→μ5[q]?=μ[q]?:=fun q hq=>by rw[s5 q (by omega),s4 q (by omega),base3 q hq]
   have g5:L0 μ5 i2 { t with ob:=t.ob.take x }:=g.Cx (fun j hj=>base5 j (g2l j hj)) (by omega)
   have h5:L0 μ5 i t:=h.Cx (fun j hj=>base5 j (il j hj)) (by omega)
   have tl:(t.ob.take x).length=x:=by rw[List.length_take]; omega
   have lI5:∀ (q:Nat),Ak .i64 μ5 μ.length q=((Bt o (r1,r2))[q]?).bind (Bu .i64):=fun q=>by simp only[Ak,Gr,b5]
   have lS5:∀ (q:Nat),Cr μ5 μ.length q=((Bt o (r1,r2))[q]?).bind Gp:=fun q=>by simp only[Cr,Gr,b5]
   have lB5:∀ (q:Nat),UP μ5 μ.length q=((Bt o (r1,r2))[q]?).bind CT:=fun q=>by simp only[UP,Gr,b5]
   have gob:BU Ac 8 μ5 i2.os x (Hm (t.ob.take x) i2.om):=by have:=g5.ob; rw[show ({ t with ob:=t.ob.take x }:RM).ob.length=x from tl] at this; exact this
   obtain ⟨o6,μ6,a6,gr,sl6⟩:=ak wI wH wK rfl rfl (by decide) (by decide) (by decide) μ5 i2.os x _ 1 1 (Bt o (r1,r2)) Ac (by omega) (by decide) rfl gob
   have a6':Be P Ac (i2.os.1,x,x) (some ⟨μ5.length,0,none⟩,1,1) (μ5++[AJ.cells [.int .i64 o.addr,.int .i64 o.id,.int .i64 o.r,.int .i64 o.d,.int .i64 o.k,.slice r1.1 r1.2.1 r1.2.2,.slice r2.1 r2.2.1 r2.2.2,.bool o.pin] Ac true])=some (o6,μ6):=by
    rw[← gob.form]; exact a6
   have new6:∀ a,o6.1=some a→μ5.length≤a.block:=by
    rcases gr.new with e | e
    ·have e1:=sl6.len
     have e2:=gob.len
     rw[e] at e1; omega
    ·exact e
   have l6:=gr.len
   have s6:∀ q,q<μ5.length→q ∉ hs i2.os→μ6[q]?=μ5[q]?:=fun q hq hn=>gr.same q hq fun a ha e=>hn (H0.2 ⟨a,ha,e⟩)
   have r1lt:∀ j ∈ hs r1,μ1.length≤j∧j<μ2.length:=fun j hj=>by rcases v1 j hj with e | e <;> omega
   have r2lt:∀ j ∈ hs r2,μ3.length≤j∧j<μ4.length:=fun j hj=>by rcases v2 j hj with e | e <;> omega
   have oslt:∀ j ∈ hs i2.os,j<μ.length:=fun j hj=>g2l j (RI.Hf.2 (.inr (.inr (.inl hj))))
   have ir1:Ir μ6 r1 o.refs:=i1.Cx fun q hq=>by
    have:=r1lt q hq
    rw[s6 q (by omega) (fun hm=>by have:=oslt q hm; omega),s5 q (by omega),s4 q (by omega),s3 q (by omega)]
   have ir2:Ir μ6 r2 o.data:=i2'.Cx fun q hq=>by
    have:=r2lt q hq
    rw[s6 q (by omega) (fun hm=>by have:=oslt q hm; omega),s5 q (by omega)]
   have et:t.ob.take (x+1)=t.ob.take x++[o]:=by rw[List.take_add_one,List.getElem?_eq_getElem hxl,ho]; rfl
   have o2l:i2.om.length=x:=by have:=g.ol; rw[show ({ t with ob:=t.ob.take x }:RM).ob.length=x from tl] at this; exact this
   have row:Hm (t.ob.take (x+1)) (i2.om++[(r1,r2)])=Hm (t.ob.take x) i2.om++Bt o (r1,r2):=by
    rw[et,U8 _ _ _ _ (by rw[o2l,tl])]; simp[Hm]
   have mA:∀ j ∈ hs i2.bs,j<μ.length:=fun j hj=>g2l j (RI.Hf.2 (.inr (.inl hj)))
   have mC:∀ j ∈ hs i2.fs,j<μ.length:=fun j hj=>g2l j (RI.Hf.2 (.inr (.inr (.inr (.inl hj)))))
   have mD:∀ j ∈ SY i2.om,j<μ.length:=fun j hj=>g2l j (RI.Hf.2 (.inr (.inr (.inr (.inr hj)))))
   have mO:∀ j ∈ hs o6,μ5.length≤j:=fun j hj=>bO new6 hj
   have omm:∀ j,j ∈ SY (i2.om++[(r1,r2)])↔j ∈ SY i2.om∨j ∈ hs r1∨j ∈ hs r2:=fun j=>by
    rw[Vw]; simp[SY]
   have mE:∀ j ∈ SY (i2.om++[(r1,r2)]),j ∈ SY i2.om∨(μ.length<j∧j<μ5.length):=fun j hj=>by
    rcases (omm j).1 hj with e | e | e
    ·exact .inl e
    ·have:=r1lt j e; exact .inr (by omega)
    ·have:=r2lt j e; exact .inr (by omega)
   have sep':Sep { i2 with os:=o6,om:=i2.om++[(r1,r2)] }:=
    { hA:=sep.hA,hB:=fun hh=>by have h3:μ5.length≤i2.hb:=mO _ hh; omega,hC:=sep.hC,
      hD:=fun hh=>by
       rcases mE _ hh with e | e
       ·exact sep.hD e
       ·have h3:μ.length<i2.hb:=e.1; omega
      AB:=fun a ha hh=>by have:=mO _ hh; have:=mA _ ha; omega,AC:=sep.AC,
      AD:=fun a ha hh=>by
       rcases mE _ hh with e | e
       ·exact sep.AD a ha e
       ·have:=mA _ ha; omega
      BC:=fun a ha hh=>by have:=mO _ ha; have:=mC _ hh; omega,
      BD:=fun a ha hh=>by
       have:=mO _ ha
       rcases mE _ hh with e | e
       ·have:=mD _ e; omega
       ·omega
      CD:=fun a ha hh=>by
       rcases mE _ hh with e | e
       ·exact sep.CD a ha e
       ·have:=mC _ ha; omega
      D:=by
       show (SY (i2.om++[(r1,r2)])).Nodup
       rw[Vw]
       have:SY [(r1,r2)]=hs r1++hs r2:=by simp[SY]
       rw[this]
       refine List.nodup_append.2 ⟨sep.D,List.nodup_append.2 ⟨Xu _,Xu _, ?_⟩, ?_⟩
       ·intro a ha b hb e
        have:=r1lt a ha; have:=r2lt b hb; omega
       ·intro a ha b hb e
        have:=mD a ha
        rcases List.mem_append.1 hb with hb | hb
        ·have:=r1lt b hb; omega
        ·have:=r2lt b hb; omega }
   have lt':∀ j ∈ RI.l { i2 with os:=o6,om:=i2.om++[(r1,r2)] },j<μ6.length:=by
    intro j hj
    rcases RI.Hf.1 hj with e | e | e | e | e
    ·have e':j=i2.hb:=e
     omega
    ·have:=mA _ e; omega
    ·obtain ⟨a,ha,rfl⟩:=H0.1 e; exact sl6.lt a ha
    ·have:=mC _ e; omega
    ·rcases mE _ e with e | e
     ·have:=mD _ e; omega
     ·omega
   have hR:=L0.pI (μ:=μ6) (i:={ i2 with os:=o6,om:=i2.om++[(r1,r2)] }) (t:={ t with ob:=t.ob.take (x+1) })
    (g5.bl.Cx fun a ha=>s6 _ (by have:=mA _ (H0.2 ⟨a,ha,rfl⟩); omega) (sep.AB _ (H0.2 ⟨a,ha,rfl⟩)))
    (by show BU _ 8 μ6 o6 (t.ob.take (x+1)).length (Hm (t.ob.take (x+1)) (i2.om++[(r1,r2)])); rw[row,show (t.ob.take (x+1)).length=x+1 from by rw[List.length_take]; omega]; exact sl6)
    (g5.fw.Cx fun a ha=>s6 _ (by have:=mC _ (H0.2 ⟨a,ha,rfl⟩); omega) (fun hm=>sep.BC _ hm (H0.2 ⟨a,ha,rfl⟩)))
    (by show (i2.om++[(r1,r2)]).length=(t.ob.take (x+1)).length; rw[List.length_append,o2l,List.length_take]; show x+1=_; omega)
    (by
     intro y y1 y2
     show Ir μ6 (i2.om++[(r1,r2)])[y].1 (t.ob.take (x+1))[y].refs∧Ir μ6 (i2.om++[(r1,r2)])[y].2 (t.ob.take (x+1))[y].data
     by_cases hy:y<x
     ·have hyo:y<i2.om.length:=by omega
      have h8:=g5.inn y (by show y<(t.ob.take x).length; omega) hyo
      have e1:(i2.om++[(r1,r2)])[y]=i2.om[y]:=List.getElem_append_left hyo
      have e2:(t.ob.take (x+1))[y]=(t.ob.take x)[y]'(by omega):=by rw[List.getElem_take,List.getElem_take]
      rw[e1,e2]
      exact ⟨h8.1.Cx fun q hq=>s6 q (by have:=mD q (OP hyo (.inl hq)); omega) (fun hm=>sep.BD q hm (OP hyo (.inl hq))),h8.2.Cx fun q hq=>s6 q (by have:=mD q (OP hyo (.inr hq)); omega) (fun hm=>sep.BD q hm (OP hyo (.inr hq)))⟩
     ·have y1':y<(t.ob.take (x+1)).length:=y1
      have hyx:y=x:=by rw[List.length_take] at y1'; omega
      subst hyx
      have e1:(i2.om++[(r1,r2)])[y]=(r1,r2):=by rw[List.getElem_append_right (by omega)]; simp[o2l]
      have e2:(t.ob.take (y+1))[y]=o:=by rw[List.getElem_take]; exact ho
      rw[e1,e2]
      exact ⟨ir1,ir2⟩)
    sep' lt'
   obtain ⟨C,hC⟩:∃ C,AJ.cells [.slice i2.bs.1 i2.bs.2.1 i2.bs.2.2,.slice o6.1 o6.2.1 o6.2.2,.slice i2.fs.1 i2.fs.2.1 i2.fs.2.2,.int .i64 t.born] Cn true=C:=⟨_,rfl⟩
   have hR':L0 (μ6.set i2.hb C) { i2 with os:=o6,om:=i2.om++[(r1,r2)] } { t with ob:=t.ob.take (x+1) }:=by rw[← hC]; exact hR
   have hp6:μ6[i2.hb]?=some (.cells [.slice i2.bs.1 i2.bs.2.1 i2.bs.2.2,.slice i2.os.1 i2.os.2.1 i2.os.2.2,.slice i2.fs.1 i2.fs.2.1 i2.fs.2.2,.int .i64 t.born] Cn true):=(s6 _ (by omega) sep.hB).trans g5.hp
   have st7:AX.Gn μ6 i2.hb 1 (.slice o6.1 o6.2.1 o6.2.2)=some (μ6.set i2.hb C):=by rw[← hC]; simp[AX.Gn,hp6]
   have base7:∀ q,q<lo→(μ6.set i2.hb C)[q]?=μ[q]?:=fun q hq=>by
    have:=h2 _ i2.N1
    rw[List.getElem?_set_ne (show i2.hb≠q by omega),s6 q (by omega) (fun hm=>by have:=h2 q (RI.Hf.2 (.inr (.inr (.inl hm)))); omega),base5 q (by omega)]
   have h7:L0 (μ6.set i2.hb C) i t:=h.Cx (fun j hj=>base7 j (hil j hj)) (by rw[List.length_set]; omega)
   obtain ⟨μ',i3,e7,r7,hb7,lo7,bs7,le7⟩:=ao k hil hn5 hint n (x+1) f (μ6.set i2.hb C) { i2 with os:=o6,om:=i2.om++[(r1,r2)] } h7 hR' (by
    intro j hj
    rcases RI.Hf.1 hj with e | e | e | e | e
    ·have e':j=i2.hb:=e
     rw[e']; exact h2 _ i2.N1
    ·exact h2 j (RI.Hf.2 (.inr (.inl e)))
    ·have:=mO j e; omega
    ·exact h2 j (RI.Hf.2 (.inr (.inr (.inr (.inl e)))))
    ·rcases mE j e with e | e
     ·exact h2 j (RI.Hf.2 (.inr (.inr (.inr (.inr e)))))
     ·omega) (by omega) (by omega)
   refine ⟨μ',i3, ?_,r7,hb7,lo7,fun q hq=>(bs7 q hq).trans (base7 q hq),by rw[List.length_set] at le7; omega⟩
   have qx:(0≤(x:Int)∧(x:Int)<((t.ob.length:Nat):Int))=True:=eq_true (by omega)
   have w1:Ae ((x:Int)+1)=((x+1:Nat):Int):=Ad (by unfold AV; omega)
   have ld1n:Cr μ5 i2.hb 1=some (i2.os.1,x,x):=by have:=g5.HA; rw[show ({ t with ob:=t.ob.take x }:RM).ob.length=x from tl] at this; exact this
   have d0:((Bt o (r1,r2))[0]?).bind (Bu .i64)=some o.addr:=rfl
   have d1:((Bt o (r1,r2))[1]?).bind (Bu .i64)=some o.id:=rfl
   have d2:((Bt o (r1,r2))[2]?).bind (Bu .i64)=some o.r:=rfl
   have d3:((Bt o (r1,r2))[3]?).bind (Bu .i64)=some o.d:=rfl
   have d4:((Bt o (r1,r2))[4]?).bind (Bu .i64)=some o.k:=rfl
   have d5:((Bt o (r1,r2))[5]?).bind Gp=some (r1.1,r1.2.1,r1.2.2):=rfl
   have d6:((Bt o (r1,r2))[6]?).bind Gp=some (r2.1,r2.2.1,r2.2.2):=rfl
   have d7:((Bt o (r1,r2))[7]?).bind CT=some o.pin:=rfl
   rw[MV,KY]
   simp only[Option.bind_some,Nat.zero_add,Nat.add_zero,Nat.add_assoc,Nat.reduceAdd,h.HA,decide_eq_true (show (x:Int)<((t.ob.length:Nat):Int) by omega),cond_true,qx,if_true,eo,Int.toNat_natCast,L.l0,L.l1,L.l2,L.l3,L.l4,L.l5,L.l6,L.l7,An,st,xw,a1,st3,vr,a2,st5,ld1n,lI5,lS5,lB5,d0,d1,d2,d3,d4,d5,d6,d7,a6',st7,w1]
   exact e7
theorem xV:Ik P Aq=some 2:=by kernel_rfl
theorem xI:bytesOf P Aq=some 16:=by kernel_rfl
theorem xZ:Fj P Aq=some (.agg #[.int .i64 0,.int .i64 0]):=by kernel_rfl
theorem rf (k:Nat) (hk:5000≤k) (h:RG σ i m t) (hfw:m.fw.length≤4000):
  ∃ σ' i',GK (k+2) (AY i) σ=some (.pointer (AY i'),σ')∧L0 σ' i' t∧(∀ j ∈ i'.l,σ.length≤j)∧(∀ q,q<σ.length→σ'[q]?=σ[q]?)∧σ.length≤σ'.length:=by
 have hnt:=h.nt
 have hnb:=h.nb
 have hbn:=h.bn
 have hol:=h.ol
 have hfl:t.fw.length≤4000:=by rw[h.sim.fl]; exact hfw
 have hlt:=h.at_.lt
 have h1:=h.at_.app [AJ.cells [] Aq true]
 obtain ⟨sb,τ1,a1,g1,_⟩:=WN xV xI xZ rfl rfl (by decide) (by decide) (by decide) σ i.bs.1 t.bl.length t.bl.length (by omega) (Cv t.bl) (by rw[Dn]; omega) h1.bl.first
 obtain ⟨g2,g3⟩:=g1 (by omega)
 obtain ⟨μ1,hμ1⟩:∃ μ1,σ++[AJ.cells [] Aq true]++τ1=μ1:=⟨_,rfl⟩
 have q1:∀ {ρ:Type} (x:Option ρ),EV (σ++[AJ.cells [] Aq true]) μ1 x=x:=fun x=>by rw[← hμ1]; exact Mm _ _ x
 rw[hμ1] at a1 g3
 have hm1:L0 μ1 i t:=by rw[← hμ1]; exact h1.app τ1
 have l1:σ.length+2≤μ1.length:=by have:=Af g3; omega
 have s1:∀ q,q<σ.length→μ1[q]?=σ[q]?:=fun q hq=>by rw[← hμ1,List.append_assoc,List.getElem?_append_left hq]
 have h2:=hm1.app [AJ.cells [] Gt true]
 have hf2:Fu (μ1++[AJ.cells [] Gt true]) 2 i.fs.1 t.fw.length=some (Cv t.fw):=by
  rcases h2.fw with hh | ⟨e0,b,cs,T,w,e1,hb2⟩
  ·exact hh.first
  ·rw[e0,e1]
   simp only[Fu,R5,hb2,List.length_nil,Nat.zero_mul,Nat.add_zero,Nat.zero_le,if_true,List.take_zero]
   rfl
 obtain ⟨sf,τ2,a2,g4,g5⟩:=WN xU xH xY rfl rfl (by decide) (by decide) (by decide) μ1 i.fs.1 t.fw.length t.fw.length (by omega) (Cv t.fw) (by rw[Dn]; omega) hf2
 obtain ⟨μ2,hμ2⟩:∃ μ2,μ1++[AJ.cells [] Gt true]++τ2=μ2:=⟨_,rfl⟩
 have q2:∀ {ρ:Type} (x:Option ρ),EV (μ1++[AJ.cells [] Gt true]) μ2 x=x:=fun x=>by rw[← hμ2]; exact Mm _ _ x
 rw[hμ2] at a2 g4
 have hm2:L0 μ2 i t:=by rw[← hμ2]; exact h2.app τ2
 have l2:μ1.length+1≤μ2.length:=by rw[← hμ2]; simp
 have s2:∀ q,q<μ1.length→μ2[q]?=μ1[q]?:=fun q hq=>by rw[← hμ2,List.append_assoc,List.getElem?_append_left hq]
 have e2:μ2[μ1.length]?=some (.cells [] Gt true):=by rw[← hμ2,List.append_assoc,List.getElem?_append_right (Nat.le_refl _)]; simp
 obtain ⟨fs',hfs⟩:∃ fs',sf=fs':=⟨_,rfl⟩
 have fwA:gX μ2 sf t.fw ∧ ∀ a,sf.1=some a→μ1.length≤a.block∧a.block<μ2.length:=by
  by_cases h0:t.fw.length=0
  ·rw[g5 h0]
   exact ⟨.inr ⟨List.length_eq_zero_iff.1 h0,μ1.length,[],_,_,rfl,e2⟩,fun a ha=>by cases ha; exact ⟨Nat.le_refl _,Af e2⟩⟩
  ·obtain ⟨p1,p2⟩:=g4 (by omega)
   rw[p1]
   exact ⟨.inl (.inr ⟨μ1.length+1,rfl,Nat.zero_le _,by rw[Dn]; omega,p2⟩),fun a ha=>by cases ha; exact ⟨by show μ1.length≤μ1.length+1; omega,Af p2⟩⟩
 obtain ⟨C,hC⟩:∃ C,AJ.cells [.slice sb.1 sb.2.1 sb.2.2,.slice none 0 0,.slice sf.1 sf.2.1 sf.2.2,.int .i64 t.born] Cn true=C:=⟨_,rfl⟩
 have hm3:=hm2.app [C]
 obtain ⟨i2,hi2⟩:∃ i2:RI,i2=⟨μ2.length,sb,(none,0,0),sf,[]⟩:=⟨_,rfl⟩
 have ml:∀ j,j ∈ i2.l↔j=μ2.length∨j=σ.length+1∨j ∈ hs sf:=by
  intro j
  rw[RI.Hf,hi2,g2]
  simp[hs,SY]
 have sflt:∀ j ∈ hs sf,μ1.length≤j∧j<μ2.length:=fun j hj=>by
  obtain ⟨a,ha,rfl⟩:=H0.1 hj
  exact fwA.2 a ha
 have R0:L0 (μ2++[C]) i2 { t with ob:=t.ob.take 0 }:=by
  rw[hi2]
  refine { hp:=by rw[← hC]; simp,bl:=?_,ob:=.inl ⟨rfl,rfl,rfl⟩,fw:=fwA.1.Cx fun a ha=>List.getElem?_append_left (fwA.2 a ha).2,ol:=rfl,inn:=fun x h=>by simp at h,nd:=?_,lt:=?_ }
  ·rw[g2]
   exact .inr ⟨σ.length+1,rfl,Nat.zero_le _,by show (Cv t.bl).length=t.bl.length*2; rw[Dn]; omega,by rw[List.getElem?_append_left (by omega),s2 _ (by omega)]; exact g3⟩
  ·have sf':Sep (⟨μ2.length,sb,(none,0,0),sf,[]⟩:RI):=by
    rw[g2]
    refine ⟨?_,by simp[hs], ?_,by simp[SY],fun a _ hh=>by simp[hs] at hh, ?_,fun a _ hh=>by simp[SY] at hh,fun a ha=>by simp[hs] at ha,fun a _ hh=>by simp[SY] at hh,fun a _ hh=>by simp[SY] at hh,by simp[SY]⟩
    ·simp[hs]; omega
    ·intro hh; have:=sflt _ hh; simp only at this; omega
    ·intro a ha hh
     simp[hs] at ha
     have:=sflt a hh
     omega
   exact sf'.nd
  ·intro j hj
   have hj:j ∈ i2.l:=by rw[hi2]; exact hj
   rcases (ml j).1 hj with e | e | e
   ·simp; omega
   ·simp; omega
   ·have:=sflt j e; simp; omega
 have hint:∀ (x:Nat) (hx:x<t.ob.length),t.ob[x].refs.length≤1000∧t.ob[x].data.length≤1000:=by
  intro x hx
  obtain ⟨j,_,_,hst,hoj⟩:=h.drop hx
  rw[List.getElem?_eq_getElem hx] at hoj
  rw[Option.some.inj hoj]
  obtain ⟨_,r1,r2,r3,r4,_⟩:=XL h.inv hst
  constructor
  ·show (Om m _ _).length≤1000; rw[FB]; omega
  ·show (Om m _ _).length≤1000; rw[FB]; omega
 obtain ⟨μ',i',e5,r5,hb5,lo5,bs5,le5⟩:=ao (k+1) (i:=i) (t:=t) (lo:=σ.length) (fun j hj=>hlt j hj) (by omega) hint t.ob.length 0 (k+1) (μ2++[C]) i2 hm3 R0 (fun j hj=>by
  rcases (ml j).1 hj with e | e | e
  ·omega
  ·omega
  ·have:=sflt j e; omega) (by omega) (by omega)
 have hi2b:i2.hb=μ2.length:=by rw[hi2]
 rw[hi2b] at e5 hb5
 have e5':Ek (k+1) (k+1) (AY i) μ2.length 0 (μ2++[C])=_:=e5
 refine ⟨μ',i', ?_,r5,lo5,fun q hq=>?_,by simp at le5; omega⟩
 ·rw[Wg,RL]
  simp only[FD k h,Option.bind_some,Ao,Bool.not_true,cond_false,An,Nat.zero_add,Nat.add_zero,h1.SX,a1,q1,h2.kP,a2,q2,hm2.uE,hC,e5',if_true]
  show some (Value.pointer (some ⟨μ2.length,0,none⟩),μ')=some (.pointer (AY i'),μ')
  rw[← hb5]
 ·rw[bs5 q hq,List.getElem?_append_left (by omega),s2 q (by omega),s1 q hq]
end Go.Proofs.YtlaplcglpnlieaaGreat
end
