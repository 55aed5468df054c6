/- The program's heap, asked anything; what calls keep.; Both heaps looked at.; Both heaps are in the same state.; A call of both heaps.; A heap that nob -/
import Derived.Test.YtlaplcglpnlieaaGreatP19
import Derived.Test.YtlaplcglpnlieaaGreatP15
import Derived.Test.YtlaplcglpnlieaaGreatP12
set_option linter.unusedVariables false
set_option linter.unusedSimpArgs false
set_option linter.unusedSectionVars false
section
namespace Go.Proofs.YtlaplcglpnlieaaGreat
open Go Go.AX
noncomputable local instance qSD:Bb:=Az
local instance zs:Kn:=⟨true⟩
variable {σ:Aa} {m:HM} {i:CU}
theorem nf (k:Nat) (h:Ah σ i m) {b:Int} (hb:¬ (0≤b∧b<(m.bls.length:Int))):Cl (k+3) (BN i) b σ=some (.bool false,σ):=by
 rw[MD,Mg]
 simp only[dN _ h,Option.bind_some,Ao,decide_eq_false (show ¬ (1≤b∧b<(m.bls.length:Int)) by omega),cond_false]
theorem uc (k:Nat) (h:Ah σ i m) (b:Int):C5 (k+3) (BN i) b σ=some (.int .i64 (Ij m b),σ):=by
 unfold Ij
 by_cases hb:0≤b∧b<(m.bls.length:Int)
 ·rw[if_pos hb]
  obtain ⟨n,rfl⟩:∃ n:Nat,b=(n:Int):=⟨b.toNat,by omega⟩
  rw[Int.toNat_natCast]
  exact kU k h (by omega)
 ·rw[if_neg hb,LM,Ln]
  by_cases h0:b<0
  ·simp only[decide_eq_true h0,cond_true,Option.bind_some]
  ·simp only[decide_eq_false h0,cond_false,I4 k h,Option.bind_some,Am,decide_eq_true (show b≥((m.bls.length:Nat):Int) by omega),cond_true]
theorem ub (k:Nat) (h:Ah σ i m) (b:Int):B5 (k+3) (BN i) b σ=some (.int .i64 (VF m b),σ):=by
 unfold VF
 by_cases hb:0≤b∧b<(m.bls.length:Int)
 ·rw[if_pos hb]
  obtain ⟨n,rfl⟩:∃ n:Nat,b=(n:Int):=⟨b.toNat,by omega⟩
  rw[Int.toNat_natCast]
  exact eh k h (by omega)
 ·rw[if_neg hb,IM,IG]
  by_cases h0:b<0
  ·simp only[decide_eq_true h0,cond_true,Option.bind_some]
  ·simp only[decide_eq_false h0,cond_false,I4 k h,Option.bind_some,Am,decide_eq_true (show b≥((m.bls.length:Nat):Int) by omega),cond_true]
theorem pY (k:Nat) (hk:5000≤k) (h:Ah σ i m) (b:Int):∃ τ s,B4 (k+6) (BN i) b σ=some (.slice s.1 s.2.1 s.2.2,σ++τ)∧Dl σ.length (σ++τ) s (CK (UA m b)):=by
 unfold UA
 by_cases hb:0≤b∧b<(m.bls.length:Int)
 ·rw[if_pos hb]
  obtain ⟨n,rfl⟩:∃ n:Nat,b=(n:Int):=⟨b.toNat,by omega⟩
  rw[Int.toNat_natCast]
  exact UT k hk h (by omega)
 ·rw[if_neg hb,Kz,Jz]
  refine ⟨[],(none,0,0), ?_,.inl ⟨rfl,rfl⟩⟩
  simp only[H9 _ h,Option.bind_some,Ao,Bool.not_true,cond_false,List.append_nil]
  by_cases h0:b<0
  ·simp only[decide_eq_true h0,cond_true,Option.bind_some]
  ·simp only[decide_eq_false h0,cond_false,Option.bind_some,Nat.zero_add,h.SX,decide_eq_true (show b≥((m.bls.length:Nat):Int) by omega),cond_true]
theorem rP (k:Nat) (hk:5000≤k) (h:Ah σ i m) (hI:Inv m) (h0:B0 m) (b:Int):
  ∃ τ s,Ec (k+7) (BN i) b σ=some (.slice s.1 s.2.1 s.2.2,σ++τ)∧BU Aj 2 (σ++τ) s (H8 m b).length (Bh (H8 m b)) ∧ ∀ a,s.1=some a→σ.length≤a.block:=by
 by_cases hb:0≤b∧b<(m.bls.length:Int)
 ·obtain ⟨n,rfl⟩:∃ n:Nat,b=(n:Int):=⟨b.toNat,by omega⟩
  have e:H8 m (n:Int)=iU m n:=by
   unfold H8 iU Ij
   rw[if_pos hb,Int.toNat_natCast]
   by_cases hs:(m.bls.getD n (0,0)).1=1
   ·have:1≤n:=by
     rcases Nat.eq_zero_or_pos n with rfl | h1
     ·have:=h0; unfold B0 at this; omega
     ·exact h1
    rw[if_pos hs,if_pos ⟨this,hs⟩]
   ·rw[if_neg hs,if_neg (fun hh=>hs hh.2)]
  rw[e]
  obtain ⟨τ,s,e1,e2,_,e4⟩:=tV k hk h hI (b:=n) (by omega)
  exact ⟨τ,s,e1,e2,e4⟩
 ·have e:H8 m b=[]:=by
   unfold H8 Ij
   rw[if_neg hb,if_neg (by decide)]
  rw[e]
  refine ⟨[],(none,0,0), ?_,BU.nil _ _ _,by intro a ha; cases ha⟩
  rw[J3,JF]
  have hu:Cl (k+6) (BN i) b σ=_:=nf (k+3) h hb
  simp only[hu,Option.bind_some,Ao,Bool.not_false,cond_true,List.append_nil]
theorem ig {l l':List Bool} (hl:l.length=l'.length) (h:∀ t,t<l.length→(l.getD t false=true↔l'.getD t false=true)):l=l':=by
 apply List.ext_getElem hl
 intro n h1 h2
 have:=h n h1
 rw[List.getD_eq_getElem?_getD,List.getD_eq_getElem?_getD,List.getElem?_eq_getElem h1,List.getElem?_eq_getElem h2,Option.getD_some,Option.getD_some] at this
 cases hx:l[n] <;> cases hy:l'[n] <;> rw[hx,hy] at this <;> simp at this <;> rfl
theorem pb (k:Nat) (hk:5000≤k) (h:Ah σ i m) (hI:Inv m) (hI2:Inv2 m) (h0:B0 m) (b:Int):
  ∃ τ s,CX (k+7) (BN i) b σ=some (.slice s.1 s.2.1 s.2.2,σ++τ)∧BU Dv 1 (σ++τ) s (DO m b).length (FJ (DO m b)) ∧ ∀ a,s.1=some a→σ.length≤a.block:=by
 have hwl:=h.wl
 by_cases hb:0≤b∧b<(m.bls.length:Int)
 ·obtain ⟨n,rfl⟩:∃ n:Nat,b=(n:Int):=⟨b.toNat,by omega⟩
  have hn:n<m.bls.length:=by omega
  unfold DO Ij
  rw[if_pos hb,Int.toNat_natCast]
  by_cases hs:(m.bls.getD n (0,0)).1=1
  ·have h1:1≤n:=by
    rcases Nat.eq_zero_or_pos n with rfl | h1
    ·have:=h0; unfold B0 at this; omega
    ·exact h1
   rw[if_pos hs]
   obtain ⟨τ,bs,e1,e2,e3,e4⟩:=rU k hk h hI hI2 hn h1 hs
   have eb:bs=PE m n 8:=by
    refine ig (by rw[e3,LU]) fun t ht=>?_
    rw[e4 t,ta hI hI2 hwl hn hs (by omega)]
    have:(PE m n 8).getD t false=aX m (64*n+8*t) 8:=by
     unfold PE
     rw[List.getD_eq_getElem?_getD,List.getElem?_map,List.getElem?_range (by omega)]
     rfl
    rw[this]
   rw[eb] at e2
   exact ⟨τ,(some ⟨σ.length,0,none⟩,8,8),e1,.inr ⟨σ.length,by rw[LU],Nat.zero_le _,by rw[LU]; unfold FJ; rw[List.length_map,LU],e2⟩,fun a ha=>by cases ha; exact Nat.le_refl _⟩
  ·rw[if_neg hs]
   refine ⟨[],(none,0,0), ?_,BU.nil _ _ _,by intro a ha; cases ha⟩
   rw[List.append_nil]
   exact rT (k+3) h hn (fun hh=>hs hh.2)
 ·have e:DO m b=[]:=by
   unfold DO Ij
   rw[if_neg hb,if_neg (by decide)]
  rw[e]
  refine ⟨[],(none,0,0), ?_,BU.nil _ _ _,by intro a ha; cases ha⟩
  rw[IL,ID]
  have hu:Cl (k+6) (BN i) b σ=_:=nf (k+3) h hb
  simp only[hu,Option.bind_some,Ao,Bool.not_false,cond_true,List.append_nil]
theorem tZ (k:Nat) (h:Ah σ i m) (a:Int) (ha:AV a):∃ τ,Hk (k+6) (BN i) a σ=some (.tuple #[if I0 m a then oN m (a.toNat/2) else oM,.int .i64 (if I0 m a then 0 else 4)],σ++τ):=by
 cases hh:I0 m a with
 | true=>
   obtain ⟨j,rfl,hs⟩:=IA hh
   obtain ⟨τ,e⟩:=rX k h hs
   refine ⟨τ, ?_⟩
   rw[e,show ((2*j:Nat):Int).toNat/2=j from by omega]
   rfl
 | false=>
   rw[Qm,Ov]
   simp only[An]
   have h1:=h.app [AJ.cells [Value.int .i64 0,.int .i64 0,.int .i64 0] Ag true]
   have hN:∀ x y z:Value,R5 (σ++[AJ.cells [x,y,z] Ag true]) σ.length 0 3=some [x,y,z]:=fun x y z=>by simp[R5]
   refine ⟨[AJ.cells [.int .i64 0,.int .i64 0,.int .i64 0] Ag true], ?_⟩
   simp only[U9 k h1 a ha,hh,Bool.false_eq_true,if_false,Option.bind_some,Am,vY,cond_true,aG,hN,LV]
   rfl
theorem wP (k:Nat) (h:Ah σ i m) (hI:Inv m) (a x:Int) (ha:AV a):∃ τ,KM (k+7) (BN i) a x σ=some (.tuple #[.int .i64 (dx m a x false).1,.int .i64 (dx m a x false).2],σ++τ):=by
 obtain ⟨τ,e⟩:=lL k h hI a x ha false
 refine ⟨τ, ?_⟩
 rw[Zc,VO]
 simp only[e,Option.bind_some,Dj]
 unfold dx
 by_cases h0:(Ft m a x false).2=0
 ·rw[if_pos h0]
  have hf:0≤(Ft m a x false).1∧(Ft m a x false).1<(m.wds.length:Int):=by
   unfold Ft at h0 ⊢
   split at h0
   ·rename_i hh
    obtain ⟨j,rfl,hs⟩:=IA hh
    have hfit:=hI.fit j hs
    have hz:=hI.size hs
    simp only[show ((2*j:Nat):Int).toNat/2=j from by omega,Bool.false_eq_true,if_false] at h0 ⊢
    split at h0
    ·rename_i hx
     rw[if_pos (dI hs),if_pos hx]
     dsimp only
     omega
    ·cases h0
   ·cases h0
  obtain ⟨n,hn⟩:∃ n:Nat,(Ft m a x false).1=(n:Int):=⟨(Ft m a x false).1.toNat,by omega⟩
  have qx:(0≤(n:Int)∧(n:Int)<((m.wds.length:Nat):Int))=True:=eq_true (by omega)
  simp only[h0,hn,bne_self_eq_false,cond_false,Nat.zero_add,(h.app τ).HA,Option.bind_some,qx,if_true,Int.toNat_natCast,Nat.mul_one,(h.app τ).qO (show n<m.wds.length by omega)]
 ·rw[if_neg h0]
  simp only[bne_iff_ne.2 h0,cond_true]
theorem v9 (k:Nat) (h:Ah σ i m) (hI:Inv m) (a x:Int) (ha:AV a):∃ τ,JK (k+7) (BN i) a x σ=some (.tuple #[.int .i64 (dx m a x true).1,.int .i64 (dx m a x true).2],σ++τ):=by
 obtain ⟨τ,e⟩:=lL k h hI a x ha true
 refine ⟨τ, ?_⟩
 rw[Yk,Uh]
 simp only[e,Option.bind_some,Dj]
 unfold dx
 by_cases h0:(Ft m a x true).2=0
 ·rw[if_pos h0]
  have hf:0≤(Ft m a x true).1∧(Ft m a x true).1<(m.wds.length:Int):=by
   unfold Ft at h0 ⊢
   split at h0
   ·rename_i hh
    obtain ⟨j,rfl,hs⟩:=IA hh
    have hfit:=hI.fit j hs
    have hz:=hI.size hs
    simp only[show ((2*j:Nat):Int).toNat/2=j from by omega,if_true] at h0 ⊢
    split at h0
    ·rename_i hx
     rw[if_pos (dI hs),if_pos hx]
     dsimp only
     omega
    ·cases h0
   ·cases h0
  obtain ⟨n,hn⟩:∃ n:Nat,(Ft m a x true).1=(n:Int):=⟨(Ft m a x true).1.toNat,by omega⟩
  have qx:(0≤(n:Int)∧(n:Int)<((m.wds.length:Nat):Int))=True:=eq_true (by omega)
  simp only[h0,hn,bne_self_eq_false,cond_false,Nat.zero_add,(h.app τ).HA,Option.bind_some,qx,if_true,Int.toNat_natCast,Nat.mul_one,(h.app τ).qO (show n<m.wds.length by omega)]
 ·rw[if_neg h0]
  simp only[bne_iff_ne.2 h0,cond_true]
theorem Ju {c:Prop} [Decidable c] {r r':Int × HM} (h:c→FZ r.2) (h':¬ c→FZ r'.2):FZ (if c then r else r').2:=by
 split
 ·exact h ‹_›
 ·exact h' ‹_›
theorem TK {m':HM} (h:FZ m) (hb:m'.bls=m.bls):FZ m':=by unfold FZ; rw[hb]; exact h
theorem bf (h:FZ m) (b c x y x' y':Int) (hx:x≠0) (hx':x'≠0∨c=1):FZ (Cw m b c x y x' y').2:=by
 unfold Cw
 refine Ju (fun hc=>Ju (fun hu=>?_) fun _=>h) fun _=>h
 intro d hd
 have hd:(((Yj m.bls b.toNat (x',y') c.toNat 0).set b.toNat (x,y)).getD d (0,0)).1=0:=hd
 show (((Yj m.bls b.toNat (x',y') c.toNat 0).set b.toNat (x,y)).getD d (0,0)).2=0
 rw[Tw,Hp] at hd ⊢
 by_cases h1:d=b.toNat∧b.toNat<m.bls.length
 ·rw[if_pos h1] at hd; exact absurd hd hx
 ·rw[if_neg h1] at hd ⊢
  rw[dE _ _ _ _ _ _ (by omega)] at hd ⊢
  split at hd
  ·rename_i hr
   rcases hx' with hx' | rfl
   ·exact absurd hd hx'
   ·rw[show (1:Int).toNat=1 from rfl] at hr
    exact absurd ⟨by omega,by omega⟩ h1
  ·rename_i hr
   rw[if_neg hr]; exact h d hd
theorem m7 (h:FZ m) (b:Int):FZ (Jb m b).2:=by
 unfold Jb
 refine Ju (fun hc=>Ju (fun hu=>?_) fun _=>h) fun _=>h
 intro d hd
 have hd:((gq m.bls b.toNat (GS m b.toNat)).getD d (0,0)).1=0:=hd
 show ((gq m.bls b.toNat (GS m b.toNat)).getD d (0,0)).2=0
 rw[UB] at hd ⊢
 split
 ·rfl
 ·rename_i hr
  rw[if_neg hr] at hd; exact h d hd
theorem ry (h:FZ m) (b y:Int):FZ (OR m b y).2:=by
 unfold OR
 refine Ju (fun hc=>?_) fun _=>h
 obtain ⟨n,rfl,h1,h2,_⟩:=Vq hc
 rw[Int.toNat_natCast]
 have hst:(m.bls.getD n (0,0)).1=1∨(m.bls.getD n (0,0)).1=2:=by
  unfold Qx at hc
  split at hc
  ·cases hc
  ·split at hc
   ·cases hc
   ·rename_i g
    rw[Int.toNat_natCast] at g
    omega
 intro d hd
 have hd:((cg m.bls n y (GS m n)).getD d (0,0)).1=0:=hd
 show ((cg m.bls n y (GS m n)).getD d (0,0)).2=0
 rw[gO _ _ _ _ _ (SN h2)] at hd ⊢
 split
 ·rename_i hr
  rw[if_pos hr] at hd
  have:=aF (m:=m) m.bls.length 1 hst (Nat.le_refl _) (fun c _ _=>by omega) (d-n) (by show d-n<GS m n; omega)
  rw[show n+(d-n)=d from by omega] at this
  exact absurd hd this
 ·rename_i hr
  rw[if_neg hr] at hd; exact h d hd
theorem sx (h:FZ m) (x:Ye):FZ (lE m x).2:=by
 unfold lE
 refine Ju (fun _=>bf h _ _ _ _ _ _ (by decide) (.inr rfl)) fun _=>?_
 refine Ju (fun _=>bf h _ _ _ _ _ _ (by decide) (.inl (by decide))) fun _=>?_
 refine Ju (fun _=>m7 h _) fun _=>?_
 refine Ju (fun _=>ry h _ _) fun _=>?_
 refine Ju (fun _=>?_) fun _=>?_
 ·unfold CC
  split
  ·split
   ·exact TK h rfl
   ·exact h
  ·exact h
 refine Ju (fun _=>?_) fun _=>?_
 ·unfold Rh; exact Ju (fun _=>TK h rfl) fun _=>h
 refine Ju (fun _=>?_) fun _=>?_
 ·unfold jh; exact Ju (fun _=>Ju (fun _=>TK h rfl) fun _=>h) fun _=>h
 refine Ju (fun _=>?_) fun _=>?_
 ·unfold Yb; exact Ju (fun _=>Ju (fun _=>h) fun _=>TK h rfl) fun _=>h
 refine Ju (fun _=>?_) fun _=>?_
 ·unfold UH; exact Ju (fun _=>TK h rfl) fun _=>h
 refine Ju (fun _=>?_) fun _=>?_
 ·unfold jr
  refine Ju (fun _=>?_) fun _=>h
  split
  ·exact h
  ·exact Ju (fun _=>TK h rfl) fun _=>h
 refine Ju (fun _=>?_) fun _=>?_
 ·unfold ir; exact Ju (fun _=>TK h rfl) fun _=>h
 refine Ju (fun _=>?_) fun _=>?_
 ·unfold ir; exact Ju (fun _=>TK h rfl) fun _=>h
 exact Ju (fun _=>TK h rfl) fun _=>h
end Go.Proofs.YtlaplcglpnlieaaGreat
end
section
namespace Go.Proofs.YtlaplcglpnlieaaGreat
open Go Go.AX
noncomputable local instance qSE:Bb:=Az
local instance zt:Kn:=⟨true⟩
variable {σ:Aa} {m:HM} {t:RM} {i:CU} {j:RI}
structure hO (σ:Aa) (i:CU) (j:RI) (m:HM) (t:RM):Prop where
 h:Ah σ i m
 g:RG σ j m t
 P:Pt m
 z:FZ m
 b0:B0 m
 off:∀ q ∈ i.l,q ∉ j.l
 br:m.births≤1000
 fl:m.fw.length≤1000
theorem hO.app (T:hO σ i j m t) (τ:Aa):hO (σ++τ) i j m t:=⟨T.h.app τ,T.g.app τ,T.P,T.z,T.b0,T.off,T.br,T.fl⟩
def jJ (m:HM) (a:Int):Int × Int:=if 0≤a∧a<(m.wds.length:Int) then (m.wds.getD a.toNat 0,0) else (0,1)
def iP (m:HM) (a:Int):Int × Int:=match Lq m a with | some j=>(((2*j:Nat):Int),0) | none=>(0,4)
def bJ (m:HM) (a:Int):Int × Int:=if I0 m a then (m.wds.getD a.toNat 0,0) else (0,4)
def wF (m:HM) (n:Int):Int × Int:=match getM m.pl n with | some a=>(a,0) | none=>(0,4)
theorem wA (k:Nat) (h:Ah σ i m) (a:Int):GC (k+2) (BN i) a σ=some (.tuple #[.int .i64 (jJ m a).1,.int .i64 (jJ m a).2],σ):=by
 rw[ug k h a]; unfold jJ; split <;> rfl
theorem wB (k:Nat) (hk:5000≤k) (g:RG σ j m t) (a:Int):∃ τ,Hl (k+4) (AY j) a σ=some (.tuple #[.int .i64 (jJ m a).1,.int .i64 (jJ m a).2],σ++τ):=by
 obtain ⟨τ,e⟩:=tx k hk g a
 refine ⟨τ, ?_⟩
 rw[e]; unfold jJ; split <;> rfl
theorem vN (k:Nat) (hk:5000≤k) (h:Ah σ i m) (a:Int):∃ τ,Eb (k+10) (BN i) a σ=some (.tuple #[.int .i64 (iP m a).1,.int .i64 (iP m a).2],σ++τ):=by
 obtain ⟨τ,e⟩:=oZ k hk h a
 refine ⟨τ, ?_⟩
 rw[e]; unfold iP; cases Lq m a <;> rfl
theorem vO (k:Nat) (hk:5000≤k) (g:RG σ j m t) (a:Int):∃ τ,D3 (k+3) (AY j) a σ=some (.tuple #[.int .i64 (iP m a).1,.int .i64 (iP m a).2],σ++τ):=by
 obtain ⟨τ,e⟩:=gm k hk g a
 refine ⟨τ, ?_⟩
 rw[e]; unfold iP; cases Lq m a <;> rfl
theorem uA (k:Nat) (h:Ah σ i m) (a:Int) (ha:AV a):FP (k+6) (BN i) a σ=some (.tuple #[.int .i64 (bJ m a).1,.int .i64 (bJ m a).2],σ):=by
 rw[rR k h a ha]; unfold bJ; split <;> rfl
theorem uB (k:Nat) (hk:5000≤k) (g:RG σ j m t) (a:Int):Fl (k+4) (AY j) a σ=some (.tuple #[.int .i64 (bJ m a).1,.int .i64 (bJ m a).2],σ):=by
 rw[ri k hk g a]; unfold bJ; split <;> rfl
theorem xE (k:Nat) (h:Ah σ i m) (n:Int):Ia (k+2) (BN i) n σ=some (.tuple #[.int .i64 (wF m n).1,.int .i64 (wF m n).2],σ):=by
 rw[wM k h n]; unfold wF; cases getM m.pl n <;> rfl
theorem xF (k:Nat) (hk:5000≤k) (g:RG σ j m t) (n:Int):Hy (k+2) (AY j) n σ=some (.tuple #[.int .i64 (wF m n).1,.int .i64 (wF m n).2],σ):=by
 rw[wj k hk g n]; unfold wF; cases getM m.pl n <;> rfl
def PS (m:HM) (a:Int):Int × Int × Int:=if I0 m a then (AQ m (a.toNat/2),BB m (a.toNat/2),EG m (a.toNat/2)) else (0,0,0)
theorem mN (m:HM) (a:Int):(if I0 m a then oN m (a.toNat/2) else oM) = .agg #[.int .i64 (PS m a).1,.int .i64 (PS m a).2.1,.int .i64 (PS m a).2.2]:=by
 unfold PS; split <;> rfl
theorem rH (hI:Inv m) (a:Int):0≤(PS m a).1∧(PS m a).1≤200∧0≤(PS m a).2.1∧(PS m a).2.1≤200:=by
 unfold PS
 split
 ·rename_i hh
  obtain ⟨j,rfl,hs⟩:=IA hh
  obtain ⟨_,r1,r2,r3,r4,_⟩:=XL hI hs
  rw[show ((2*j:Nat):Int).toNat/2=j from by omega]
  dsimp only
  omega
 ·dsimp only; omega
theorem uw (a b c a' b' c':Int):PX P Ag (.agg #[.int .i64 a,.int .i64 b,.int .i64 c]) (.agg #[.int .i64 a',.int .i64 b',.int .i64 c'])=(bif a == a' then (bif b == b' then some (c == c') else some false) else some false):=by kernel_rfl
theorem cq (k:Nat) (hk:5000≤k) (a:Int) (ha:AV a) {q:Nat} {r d c:Int} {T:TypeId} (hr:r≤1000):∀ (n f:Nat) (x:Int) (σ:Aa),hO σ i j m t→σ[q]?=some (.cells [.int .i64 r,.int .i64 d,.int .i64 c] T true)→x+n=r+1 → -1≤x→n<f →
  ∃ τ,HN (k+7) f (BN i) (AY j) a q x σ=some (.exit 0,[],σ++τ)
 | n,0,x,σ,W,hq,hx,h1,hf=>by omega
 | 0,f+1,x,σ,W,hq,hx,h1,hf=>by
   have l0:Ak .i64 σ q 0=some r:=by simp[Ak,Gr,hq,Bu]
   rw[QY,P3]
   exact ⟨[],by simp only[Nat.zero_add,Nat.add_zero,l0,Option.bind_some,decide_eq_false (show ¬ x≤r by omega),cond_false,List.append_nil]⟩
 | n+1,f+1,x,σ,W,hq,hx,h1,hf=>by
   have l0:Ak .i64 σ q 0=some r:=by simp[Ak,Gr,hq,Bu]
   obtain ⟨τ1,e1⟩:=wP k W.h W.g.inv a x ha
   have W1:=W.app τ1
   obtain ⟨τ2,e2⟩:=uO (k+3) (by omega) W1.g a x
   have W2:=W1.app τ2
   obtain ⟨τ3,e3⟩:=cq k hk a ha hr n f (x+1) (σ++τ1++τ2) W2 (by rw[List.append_assoc,List.getElem?_append_left (Af hq)]; exact hq) (by omega) (by omega) (by omega)
   refine ⟨τ1++τ2++τ3, ?_⟩
   have w1:Ae (x+1)=x+1:=Ad (by unfold AV; omega)
   rw[QY,P3]
   simp only[Nat.zero_add,Nat.add_zero,l0,Option.bind_some,decide_eq_true (show x≤r by omega),cond_true,e1,Dj,e2,bne_self_eq_false,cond_false,w1,e3]
   simp only[List.append_assoc]
theorem ct (k:Nat) (hk:5000≤k) (a:Int) (ha:AV a) {q:Nat} {r d c:Int} {T:TypeId} (hr:d≤1000):∀ (n f:Nat) (x:Int) (σ:Aa),hO σ i j m t→σ[q]?=some (.cells [.int .i64 r,.int .i64 d,.int .i64 c] T true)→x+n=d+1 → -1≤x→n<f →
  ∃ τ,HO (k+7) f (BN i) (AY j) a q x σ=some (.exit 2,[],σ++τ)
 | n,0,x,σ,W,hq,hx,h1,hf=>by omega
 | 0,f+1,x,σ,W,hq,hx,h1,hf=>by
   have l0:Ak .i64 σ q 1=some d:=by simp[Ak,Gr,hq,Bu]
   rw[QZ,P4]
   exact ⟨[],by simp only[Nat.zero_add,Nat.add_zero,l0,Option.bind_some,decide_eq_false (show ¬ x≤d by omega),cond_false,List.append_nil]⟩
 | n+1,f+1,x,σ,W,hq,hx,h1,hf=>by
   have l0:Ak .i64 σ q 1=some d:=by simp[Ak,Gr,hq,Bu]
   obtain ⟨τ1,e1⟩:=v9 k W.h W.g.inv a x ha
   have W1:=W.app τ1
   obtain ⟨τ2,e2⟩:=tq (k+3) (by omega) W1.g a x
   have W2:=W1.app τ2
   obtain ⟨τ3,e3⟩:=ct k hk a ha hr n f (x+1) (σ++τ1++τ2) W2 (by rw[List.append_assoc,List.getElem?_append_left (Af hq)]; exact hq) (by omega) (by omega) (by omega)
   refine ⟨τ1++τ2++τ3, ?_⟩
   have w1:Ae (x+1)=x+1:=Ad (by unfold AV; omega)
   rw[QZ,P4]
   simp only[Nat.zero_add,Nat.add_zero,l0,Option.bind_some,decide_eq_true (show x≤d by omega),cond_true,e1,Dj,e2,bne_self_eq_false,cond_false,w1,e3]
   simp only[List.append_assoc]
theorem rV (k:Nat) (hk:5000≤k) (W:hO σ i j m t) (a:Int) (ha:AV a):∃ τ,KS (k+11) (BN i) (AY j) a σ=some (.bool true,σ++τ):=by
 have hfl:t.fw.length≤1000:=by rw[W.g.sim.fl]; exact W.fl
 have e1:GC (k+10) (BN i) a σ=_:=wA (k+8) W.h a
 obtain ⟨τ1,e2⟩:=wB (k+6) (by omega) W.g a
 have W1:=W.app τ1
 have e3:Dw (k+10) (BN i) a (σ++τ1)=_:=nq (k+6) W1.h a ha
 have e4:HP (k+10) (AY j) a (σ++τ1)=_:=uM (k+7) (by omega) W1.g a
 have e5:GB (k+10) (BN i) a (σ++τ1)=_:=qa (k+5) W1.h a ha
 have e6:Gm (k+10) (AY j) a (σ++τ1)=_:=oI (k+7) (by omega) W1.g a
 obtain ⟨τ2,e7⟩:=vN k hk W1.h a
 have W2:=W1.app τ2
 obtain ⟨τ3,e8⟩:=vO (k+7) (by omega) W2.g a
 have W3:=W2.app τ3
 have e9:Gj (k+10) (BN i) a (σ++τ1++τ2++τ3)=_:=np (k+8) W3.h a
 have e10:F3 (k+10) (AY j) a (σ++τ1++τ2++τ3)=_:=mo (k+8) W3.g (by omega) (by omega) a
 have e11:FP (k+10) (BN i) a (σ++τ1++τ2++τ3)=_:=uA (k+4) W3.h a ha
 have e12:Fl (k+10) (AY j) a (σ++τ1++τ2++τ3)=_:=uB (k+6) (by omega) W3.g a
 obtain ⟨τ4,e13⟩:=tZ (k+4) W3.h a ha
 rw[mN] at e13
 have W4:=W3.app τ4
 obtain ⟨S,hS⟩:∃ S,AJ.cells [.int .i64 (PS m a).1,.int .i64 (PS m a).2.1,.int .i64 (PS m a).2.2] Ag true=S:=⟨_,rfl⟩
 have W5:=W4.app [S]
 obtain ⟨τ5,e14⟩:=rm (k+6) (by omega) W5.g a
 rw[mN] at e14
 have W6:=W5.app τ5
 have W7:=W6.app [S]
 obtain ⟨s1,s2,s3,s4⟩:=rH W.g.inv a
 generalize hsg:PS m a=s at e13 e14 s1 s2 s3 s4 hS
 obtain ⟨r,d,c⟩:=s
 dsimp only at e13 e14 s1 s2 s3 s4 hS
 generalize hμ4:σ++τ1++τ2++τ3++τ4=μ4 at *
 have st:∀ μ:Aa,Ip (μ++[AJ.cells [.int .i64 0,.int .i64 0,.int .i64 0] Ag true]) μ.length 0 [.int .i64 r,.int .i64 d,.int .i64 c]=some (μ++[S]):=fun μ=>by rw[aG,hS]
 have q1:(μ4++[S]++τ5++[S])[μ4.length]?=some (.cells [.int .i64 r,.int .i64 d,.int .i64 c] Ag true):=by
  rw[List.append_assoc,List.append_assoc,List.getElem?_append_right (Nat.le_refl _),hS]; simp
 have q2:(μ4++[S]++τ5++[S])[(μ4++[S]++τ5).length]?=some (.cells [.int .i64 r,.int .i64 d,.int .i64 c] Ag true):=by
  rw[hS]; simp
 obtain ⟨a0,a1,a2⟩:=Rp q1
 obtain ⟨b0,b1,b2⟩:=Rp q2
 obtain ⟨τ6,e15⟩:=cq (k+3) (by omega) a ha (q:=(μ4++[S]++τ5).length) (show r≤1000 by omega) (r+2).toNat (k+10) (-1) _ W7 q2 (by omega) (by omega) (by omega)
 have q3:(μ4++[S]++τ5++[S]++τ6)[(μ4++[S]++τ5).length]?=_:=(List.getElem?_append_left (Af q2)).trans q2
 obtain ⟨τ7,e16⟩:=ct (k+3) (by omega) a ha (q:=(μ4++[S]++τ5).length) (show d≤1000 by omega) (d+2).toNat (k+10) (-1) _ (W7.app τ6) q3 (by omega) (by omega) (by omega)
 have hfin:∃ τ,μ4++[S]++τ5++[S]++τ6++τ7=σ++τ:=⟨τ1++τ2++τ3++τ4++[S]++τ5++[S]++τ6++τ7,by rw[← hμ4]; simp only[List.append_assoc]⟩
 obtain ⟨τ,hτ⟩:=hfin
 refine ⟨τ, ?_⟩
 rw[bm,Y4]
 simp only[e1,Option.bind_some,Dj,e2,bne_self_eq_false,cond_false,e3,Ao,e4,beq_self_eq_true,Bool.not_true,e5,e6,e7,e8,e9,e10,e11,e12,e13]
 have tt:∀ v w:Value,cj (.tuple #[v,w])=some [v,w]:=fun v w=>rfl
 simp only[tt,Option.bind_some,List.length_cons,List.length_nil,Nat.zero_add,Nat.reduceAdd,if_true,List.head?_cons,List.tail_cons,Z8,Am,An,st,e14,a0,a1,a2,b0,b1,b2,uw,beq_self_eq_true,cond_true,Bool.not_true,cond_false,bne_self_eq_false,e15,e16,reduceCtorEq,if_false,hτ]
end Go.Proofs.YtlaplcglpnlieaaGreat
end
section
namespace Go.Proofs.YtlaplcglpnlieaaGreat
open Go Go.AX
noncomputable local instance qSG:Bb:=Az
local instance zu:Kn:=⟨true⟩
variable {σ:Aa} {m:HM} {t:RM} {i:CU} {j:RI}
theorem jT {s:EJ} {l:List Int} (h:BU AP 1 σ s l.length (CN l)) {x:Nat} (hx:x<l.length):∃ b,s.1=some ⟨b,0,none⟩∧Ak .i64 σ b x=some (l.getD x 0):=by
 rcases h with ⟨h,_⟩ | ⟨b,rfl,_,_,hc⟩
 ·omega
 ·exact ⟨b,rfl,sX hc hx⟩
theorem XO {s:EJ} {l:List Bool} (h:BU Dv 1 σ s l.length (FJ l)) {x:Nat} (hx:x<l.length):∃ b,s.1=some ⟨b,0,none⟩∧UP σ b x=some (l.getD x false):=by
 rcases h with ⟨h,_⟩ | ⟨b,rfl,_,_,hc⟩
 ·omega
 ·exact ⟨b,rfl,vT hc hx⟩
theorem SK {s:EJ} {l:List (Nat × Nat)} (h:BU Aj 2 σ s l.length (Bh l)) {x:Nat} (hx:x<l.length):∃ b,s.1=some ⟨b,0,none⟩∧Ak .i64 σ b (x*2)=some ((l.getD x (0,0)).1:Int)∧Ak .i64 σ b (x*2+1)=some ((l.getD x (0,0)).2:Int):=by
 rcases h with ⟨h,_⟩ | ⟨b,rfl,_,_,hc⟩
 ·omega
 ·obtain ⟨h1,h2⟩:=Zv l x hx
  exact ⟨b,rfl,by simp only[Ak,Gr,hc,h1,Option.bind_some,Am],by simp only[Ak,Gr,hc,h2,Option.bind_some,Am]⟩
theorem ZW (k:Nat) {s1 s2:EJ} {l:List Int} (h1:BU AP 1 σ s1 l.length (CN l)) (h2:BU AP 1 σ s2 l.length (CN l)) (hl:l.length≤100000):∀ (n x f:Nat),x+n=l.length→n<f →
  Hw k f s1.1 l.length s1.2.2 s2.1 l.length s2.2.2 (x:Int) σ=some (.exit 0,[],σ)
 | n,x,0,hx,hf=>by omega
 | 0,x,f+1,hx,hf=>by
   rw[So,QE]
   simp only[decide_eq_false (show ¬ (x:Int)<((l.length:Nat):Int) by omega),cond_false]
 | n+1,x,f+1,hx,hf=>by
   obtain ⟨b1,e1,l1⟩:=jT h1 (x:=x) (by omega)
   obtain ⟨b2,e2,l2⟩:=jT h2 (x:=x) (by omega)
   have qx:(0≤(x:Int)∧(x:Int)<((l.length:Nat):Int))=True:=eq_true (by omega)
   have w1:Ae ((x:Int)+1)=((x+1:Nat):Int):=Ad (by unfold AV; omega)
   have ih:=ZW k h1 h2 hl n (x+1) f (by omega) (by omega)
   rw[e1,e2] at ih
   rw[So,QE]
   simp only[decide_eq_true (show (x:Int)<((l.length:Nat):Int) by omega),cond_true,qx,if_true,e1,e2,Option.bind_some,Int.toNat_natCast,Nat.mul_one,Nat.zero_add,l1,l2,bne_self_eq_false,cond_false,w1,ih]
theorem jb (k:Nat) {s1 s2:EJ} {l:List Int} (h1:BU AP 1 σ s1 l.length (CN l)) (h2:BU AP 1 σ s2 l.length (CN l)) (hl:l.length≤100000) (hk:l.length<k):K8 (k+1) (s1.1,s1.2.1,s1.2.2) (s2.1,s2.2.1,s2.2.2) σ=some (.bool true,σ):=by
 have e:=ZW k h1 h2 hl l.length 0 k (by omega) hk
 have e':Hw k k s1.1 l.length s1.2.2 s2.1 l.length s2.2.2 0 σ=_:=e
 rw[dk,ZC]
 simp only[h1.len,h2.len,bne_self_eq_false,cond_false,e',Option.bind_some,if_true]
theorem YE (k:Nat) {s1 s2:EJ} {l:List Bool} (h1:BU Dv 1 σ s1 l.length (FJ l)) (h2:BU Dv 1 σ s2 l.length (FJ l)) (hl:l.length≤100000):∀ (n x f:Nat),x+n=l.length→n<f →
  GH k f s1.1 l.length s1.2.2 s2.1 l.length s2.2.2 (x:Int) σ=some (.exit 0,[],σ)
 | n,x,0,hx,hf=>by omega
 | 0,x,f+1,hx,hf=>by
   rw[Ra,P5]
   simp only[decide_eq_false (show ¬ (x:Int)<((l.length:Nat):Int) by omega),cond_false]
 | n+1,x,f+1,hx,hf=>by
   obtain ⟨b1,e1,l1⟩:=XO h1 (x:=x) (by omega)
   obtain ⟨b2,e2,l2⟩:=XO h2 (x:=x) (by omega)
   have qx:(0≤(x:Int)∧(x:Int)<((l.length:Nat):Int))=True:=eq_true (by omega)
   have w1:Ae ((x:Int)+1)=((x+1:Nat):Int):=Ad (by unfold AV; omega)
   have ih:=YE k h1 h2 hl n (x+1) f (by omega) (by omega)
   rw[e1,e2] at ih
   rw[Ra,P5]
   simp only[decide_eq_true (show (x:Int)<((l.length:Nat):Int) by omega),cond_true,qx,if_true,e1,e2,Option.bind_some,Int.toNat_natCast,Nat.mul_one,Nat.zero_add,l1,l2,beq_self_eq_true,Bool.not_true,cond_false,w1,ih]
theorem nH (k:Nat) {s1 s2:EJ} {l:List Bool} (h1:BU Dv 1 σ s1 l.length (FJ l)) (h2:BU Dv 1 σ s2 l.length (FJ l)) (hl:l.length≤100000) (hk:l.length<k):MT (k+1) (s1.1,s1.2.1,s1.2.2) (s2.1,s2.2.1,s2.2.2) σ=some (.bool true,σ):=by
 have e:=YE k h1 h2 hl l.length 0 k (by omega) hk
 have e':GH k k s1.1 l.length s1.2.2 s2.1 l.length s2.2.2 0 σ=_:=e
 rw[bp,Y5]
 simp only[h1.len,h2.len,bne_self_eq_false,cond_false,e',Option.bind_some,if_true]
theorem wU (a b a' b':Int):PX P Aj (.agg #[.int .i64 a,.int .i64 b]) (.agg #[.int .i64 a',.int .i64 b'])=(bif a == a' then some (b == b') else some false):=by kernel_rfl
theorem az (k:Nat) {s1 s2:EJ} {l:List (Nat × Nat)} (h1:BU Aj 2 σ s1 l.length (Bh l)) (h2:BU Aj 2 σ s2 l.length (Bh l)) (hl:l.length≤100000):∀ (n x f:Nat),x+n=l.length→n<f →
  EO k f s1.1 l.length s1.2.2 s2.1 l.length s2.2.2 (x:Int) σ=some (.exit 0,[],σ)
 | n,x,0,hx,hf=>by omega
 | 0,x,f+1,hx,hf=>by
   rw[OE,M9]
   simp only[decide_eq_false (show ¬ (x:Int)<((l.length:Nat):Int) by omega),cond_false]
 | n+1,x,f+1,hx,hf=>by
   obtain ⟨b1,e1,l1,l1'⟩:=SK h1 (x:=x) (by omega)
   obtain ⟨b2,e2,l2,l2'⟩:=SK h2 (x:=x) (by omega)
   have qx:(0≤(x:Int)∧(x:Int)<((l.length:Nat):Int))=True:=eq_true (by omega)
   have w1:Ae ((x:Int)+1)=((x+1:Nat):Int):=Ad (by unfold AV; omega)
   have ih:=az k h1 h2 hl n (x+1) f (by omega) (by omega)
   rw[e1,e2] at ih
   rw[OE,M9]
   simp only[decide_eq_true (show (x:Int)<((l.length:Nat):Int) by omega),cond_true,qx,if_true,e1,e2,Option.bind_some,Int.toNat_natCast,Nat.zero_add,l1,l1',l2,l2',wU,beq_self_eq_true,Bool.not_true,cond_false,w1,ih]
theorem rE (k:Nat) {s1 s2:EJ} {l:List (Nat × Nat)} (h1:BU Aj 2 σ s1 l.length (Bh l)) (h2:BU Aj 2 σ s2 l.length (Bh l)) (hl:l.length≤100000) (hk:l.length<k):JQ (k+1) (s1.1,s1.2.1,s1.2.2) (s2.1,s2.2.1,s2.2.2) σ=some (.bool true,σ):=by
 have e:=az k h1 h2 hl l.length 0 k (by omega) hk
 have e':EO k k s1.1 l.length s1.2.2 s2.1 l.length s2.2.2 0 σ=_:=e
 rw[Yp,Ul]
 simp only[h1.len,h2.len,bne_self_eq_false,cond_false,e',Option.bind_some,if_true]
theorem iz (L:List Nat):(CK L).length=L.length:=by simp[CK]
theorem dZ (k:Nat) (hk:5000≤k):∀ (n f:Nat) (x:Int) (σ:Aa),hO σ i j m t→x+n=(m.bls.length:Int)+1 → -1≤x→n<f →
  ∃ τ,I6 (k+11) f (BN i) (AY j) x σ=some (.exit 0,[],σ++τ)
 | n,0,x,σ,W,hx,h1,hf=>by omega
 | 0,f+1,x,σ,W,hx,h1,hf=>by
   have e1:Ay (k+11) (AY j) σ=_:=Jr (k+9) W.g
   rw[Sl,QB]
   exact ⟨[],by simp only[e1,Option.bind_some,Am,decide_eq_false (show ¬ x≤((m.bls.length:Nat):Int) by omega),cond_false,List.append_nil]⟩
 | n+1,f+1,x,σ,W,hx,h1,hf=>by
   have hnt:=W.g.nt
   have e1:Ay (k+11) (AY j) σ=_:=Jr (k+9) W.g
   have e2:C5 (k+11) (BN i) x σ=_:=uc (k+8) W.h x
   have e3:AL (k+11) (AY j) x σ=_:=PH (k+9) W.g x
   have e4:B5 (k+11) (BN i) x σ=_:=ub (k+8) W.h x
   have e5:B3 (k+11) (AY j) x σ=_:=XW (k+9) W.g x
   obtain ⟨τ1,u1,e6,i1⟩:=pY (k+5) (by omega) W.h x
   have W1:=W.app τ1
   obtain ⟨τ2,u2,e7,i2⟩:=XA (k+9) (by omega) W1.g x
   have W2:=W1.app τ2
   have ol:(CK (UA m x)).length≤100000∧(CK (UA m x)).length<k:=by
    rw[iz]
    unfold UA
    split
    ·have:=KK m (32*x.toNat) 32; omega
    ·simp; omega
   have e8:=jb (σ:=σ++τ1++τ2) (k+10) (s1:=u1) (s2:=u2) (l:=CK (UA m x)) (i1.sl.app τ2) i2.sl ol.1 (by omega)
   obtain ⟨τ3,u3,e9,g3,_⟩:=rP (k+4) (by omega) W2.h W.g.inv W.b0 x
   have W3:=W2.app τ3
   obtain ⟨τ4,u4,e10,g4,_⟩:=mq (k+7) (by omega) W3.g x
   have W4:=W3.app τ4
   have gl:=PD m x
   have e11:=rE (σ:=σ++τ1++τ2++τ3++τ4) (k+10) (s1:=u3) (s2:=u4) (l:=H8 m x) (g3.app τ4) g4 (by omega) (by omega)
   obtain ⟨τ5,u5,e12,g5,_⟩:=pb (k+4) (by omega) W4.h W.g.inv W.g.inv2 W.b0 x
   have W5:=W4.app τ5
   obtain ⟨τ6,u6,e13,g6,_⟩:=jy (k+7) (by omega) W5.g x
   have W6:=W5.app τ6
   have ll:(DO m x).length≤8:=by
    unfold DO
    split
    ·rw[LU]; exact Nat.le_refl _
    ·simp
   have e14:=nH (σ:=σ++τ1++τ2++τ3++τ4++τ5++τ6) (k+10) (s1:=u5) (s2:=u6) (l:=DO m x) (g5.app τ6) g6 (by omega) (by omega)
   obtain ⟨τ7,e15⟩:=dZ k hk n f (x+1) _ W6 (by omega) (by omega) (by omega)
   have w1:Ae (x+1)=x+1:=Ad (by unfold AV; omega)
   refine ⟨τ1++τ2++τ3++τ4++τ5++τ6++τ7, ?_⟩
   rw[Sl,QB]
   simp only[e1,Option.bind_some,Am,decide_eq_true (show x≤((m.bls.length:Nat):Int) by omega),cond_true,e2,e3,bne_self_eq_false,cond_false,e4,e5,e6,Gp,e7,e8,Ao,Bool.not_true,e9,e10,e11,e12,e13,e14,w1,e15]
   simp only[List.append_assoc]
theorem YY (k:Nat) (hk:5000≤k):∀ (n f:Nat) (x:Int) (σ:Aa),hO σ i j m t→x+n=64*(m.bls.length:Int)+1 → -1≤x→n<f →
  ∃ τ,Gq (k+11) f (BN i) (AY j) x σ=some (.exit 2,[],σ++τ)
 | n,0,x,σ,W,hx,h1,hf=>by omega
 | 0,f+1,x,σ,W,hx,h1,hf=>by
   have hnt:=W.g.nt
   have e1:Ay (k+11) (AY j) σ=_:=Jr (k+9) W.g
   have w:Ae (((m.bls.length:Nat):Int)*64)=64*(m.bls.length:Int):=by rw[Ad (by unfold AV; omega)]; omega
   rw[Sm,QC]
   exact ⟨[],by simp only[e1,Option.bind_some,Am,w,decide_eq_false (show ¬ x≤64*(m.bls.length:Int) by omega),cond_false,List.append_nil]⟩
 | n+1,f+1,x,σ,W,hx,h1,hf=>by
   have hnt:=W.g.nt
   have e1:Ay (k+11) (AY j) σ=_:=Jr (k+9) W.g
   have w:Ae (((m.bls.length:Nat):Int)*64)=64*(m.bls.length:Int):=by rw[Ad (by unfold AV; omega)]; omega
   have e2:AL (k+11) (AY j) (Ae (x.tdiv 64)) σ=_:=PH (k+9) W.g (Ae (x.tdiv 64))
   have w1:Ae (x+1)=x+1:=Ad (by unfold AV; omega)
   generalize Ij m (Ae (x.tdiv 64))=s at e2
   have skip:∃ τ,Gq (k+11) f (BN i) (AY j) (x+1) σ=some (.exit 2,[],σ++τ):=YY k hk n f (x+1) σ W (by omega) (by omega) (by omega)
   obtain ⟨τ1,e3⟩:=rV k hk W x (by unfold AV; omega)
   obtain ⟨τ2,e4⟩:=YY k hk n f (x+1) _ (W.app τ1) (by omega) (by omega) (by omega)
   obtain ⟨τ3,e5⟩:=skip
   rw[Sm,QC]
   simp only[e1,Option.bind_some,Am,w,decide_eq_true (show x≤64*(m.bls.length:Int) by omega),cond_true,show ((64:Int)=0)=False from by decide,show ((17:Int)=0)=False from by decide,if_false,e2]
   have look:∃ τ,((KS (k+11) (BN i) (AY j) x σ).bind fun r63=>(CT r63.1).bind fun b64=>bif !b64 then (some (Br.ret,[Value.bool false],r63.2)) else (Gq (k+11) f (BN i) (AY j) (Ae (x+1)) r63.2))=some (Br.exit 2,[],σ++τ):=
    ⟨τ1++τ2,by simp only[e3,Option.bind_some,Ao,Bool.not_true,cond_false,w1,e4]; simp only[List.append_assoc]⟩
   cases hs:(s == 0) with
   | true=>
     simp only[cond_true,Option.bind_some]
     cases hq:(x.tmod 17 != 0) with
     | true=>
       simp only[cond_true,w1]
       exact ⟨τ3,e5⟩
     | false=>
       simp only[cond_false]
       exact look
   | false=>
     simp only[cond_false,Option.bind_some]
     exact look
theorem ee (k:Nat) (hk:5000≤k) (W:hO σ i j m t):∀ (n f:Nat) (x:Int),x+n=m.births+2 → -1≤x→n<f→I7 (k+11) f (BN i) (AY j) x σ=some (.exit 4,[],σ)
 | n,0,x,hx,h1,hf=>by omega
 | 0,f+1,x,hx,h1,hf=>by
   have hb:=W.br
   have hb0:=W.g.inv.brt
   have e1:CP (k+11) (AY j) σ=_:=Zs (k+9) W.g
   have w:Ae (m.births+1)=m.births+1:=Ad (by unfold AV; omega)
   rw[Sn,QD]
   simp only[e1,Option.bind_some,Am,w,decide_eq_false (show ¬ x≤m.births+1 by omega),cond_false]
 | n+1,f+1,x,hx,h1,hf=>by
   have hb:=W.br
   have hb0:=W.g.inv.brt
   have e1:CP (k+11) (AY j) σ=_:=Zs (k+9) W.g
   have w:Ae (m.births+1)=m.births+1:=Ad (by unfold AV; omega)
   have w1:Ae (x+1)=x+1:=Ad (by unfold AV; omega)
   have e2:Ia (k+11) (BN i) x σ=_:=xE (k+9) W.h x
   have e3:Hy (k+11) (AY j) x σ=_:=xF (k+9) (by omega) W.g x
   rw[Sn,QD]
   simp only[e1,Option.bind_some,Am,w,decide_eq_true (show x≤m.births+1 by omega),cond_true,e2,Dj,e3,bne_self_eq_false,cond_false,w1]
   exact ee k hk W n f (x+1) (by omega) (by omega) (by omega)
theorem xK (a:Addr):PX P Ja (.pointer (some a)) (.pointer none)=some false:=by kernel_rfl
theorem xL (a:Addr):PX P EY (.pointer (some a)) (.pointer none)=some false:=by kernel_rfl
theorem wS:PX P Ja (.pointer none) (.pointer none)=some true:=by kernel_rfl
theorem wT:PX P EY (.pointer none) (.pointer none)=some true:=by kernel_rfl
theorem tY (k:Nat) (hk:5000≤k) (W:hO σ i j m t):∃ τ,Mi (k+12) (BN i) (AY j) σ=some (.bool true,σ++τ):=by
 have hnt:=W.g.nt
 have hnb:=W.g.nb
 have hb:=W.br
 have hb0:=W.g.inv.brt
 have e1:AF (k+11) (BN i) σ=_:=I4 (k+9) W.h
 have e2:Ay (k+11) (AY j) σ=_:=Jr (k+9) W.g
 have e3:GA (k+11) (BN i) σ=_:=pU (k+9) W.h
 have e4:CP (k+11) (AY j) σ=_:=Zs (k+9) W.g
 obtain ⟨τ1,e5⟩:=uf (k+4) (by omega) W.h
 have W1:=W.app τ1
 obtain ⟨τ2,e6⟩:=tw (k+8) (by omega) W1.g
 have W2:=W1.app τ2
 obtain ⟨τ3,u1,e7,i1⟩:=rM (k+5) (by omega) W2.h
 have W3:=W2.app τ3
 obtain ⟨τ4,u2,e8,i2⟩:=pK (k+9) (by omega) W3.g
 have W4:=W3.app τ4
 have al:(CK (D1 m)).length≤2048:=by
  rw[iz]; have:=KK m 0 (32*m.bls.length); unfold D1; omega
 have e9:=jb (σ:=σ++τ1++τ2++τ3++τ4) (k+10) (s1:=u1) (s2:=u2) (l:=CK (D1 m)) (Dl.sl (show Dl _ _ u1 (CK (D1 m)) from i1) |>.app τ4) i2.sl (by omega) (by omega)
 obtain ⟨τ5,e10⟩:=dZ k hk (m.bls.length+2) (k+11) (-1) _ W4 (by omega) (by omega) (by omega)
 have W5:=W4.app τ5
 obtain ⟨τ6,e11⟩:=YY k hk (64*m.bls.length+2) (k+11) (-1) _ W5 (by omega) (by omega) (by omega)
 have W6:=W5.app τ6
 have e12:=ee k hk W6 (m.births+3).toNat (k+11) (-1) (by omega) (by omega) (by omega)
 refine ⟨τ1++τ2++τ3++τ4++τ5++τ6, ?_⟩
 rw[di,ZB]
 simp only[e1,e2,e3,e4,Option.bind_some,Am,bne_self_eq_false,cond_false,e5,e6,e7,Gp,e8,e9,Ao,Bool.not_true,xK,xL,beq_self_eq_true,e10,e11,e12,if_true,reduceCtorEq,if_false]
 simp only[List.append_assoc]
end Go.Proofs.YtlaplcglpnlieaaGreat
end
section
namespace Go.Proofs.YtlaplcglpnlieaaGreat
open Go Go.AX
noncomputable local instance qSH:Bb:=Az
local instance zv:Kn:=⟨true⟩
variable {σ:Aa} {m:HM} {t:RM} {i:CU} {j:RI}
structure vi (i:CU) (j j':RI) (σ σ':Aa):Prop where
 len:σ.length≤σ'.length
 same:∀ q,q<σ.length→q ∉ i.l→q ∉ j.l→σ'[q]?=σ[q]?
 new:∀ q,q ∈ j'.l→q ∈ j.l∨σ.length≤q
 hb:j'.hb=j.hb
theorem bK {a:Addr} {σ σ':Aa} {ρ:Type} (h:σ'[a.block]?=σ[a.block]?) (x:Option ρ):U4 (some a) σ σ' x=x:=by
 have:@Bb.k Az σ σ' a.block=true:=by
  unfold Az
  simpa using h
 unfold U4
 simp only[this,cond_true]
theorem jq {μ:Aa} {A:Option (Value × Aa)} {B:Aa→Option (Value × Aa)} (W:hO μ i j m t) {v:Value} {m':HM} (hA:∃ σ1,A=some (v,σ1)∧Ah σ1 i m'∧BZ i μ σ1) (hI:Inv m') (hI2:Inv2 m') (hF:FZ m') (hb:B0 m') (hbr:m'.births≤1000) (hfl:m'.fw.length≤1000)
  (hR:∀ σ1,RG σ1 j m t→Is (B σ1) σ1 j v m'):∃ σ1 σ2 j' t',A=some (v,σ1)∧B σ1=some (v,σ2)∧hO σ2 i j' m' t'∧vi i j j' μ σ2∧(∀ q,q<μ.length→q ∉ i.l→σ1[q]?=μ[q]?):=by
 obtain ⟨σ1,eA,h1,k1⟩:=hA
 have g1:RG σ1 j m t:=W.g.Cx (fun q hq=>k1.same q (W.g.at_.lt q hq) fun hm=>W.off q hm hq) k1.len
 obtain ⟨σ2,j',t',eB,r2,s2,p2,k2⟩:=hR σ1 g1
 have h2:Ah σ2 i m':=h1.Cx fun q hq=>k2.same q (h1.lt q hq) (W.off q hq)
 refine ⟨σ1,σ2,j',t',eA,eB,⟨h2,⟨r2,s2,hI,hI2,h2.wl,h2.nb,h2.nt⟩,p2,hF,hb,fun q hq hm=>?_,hbr,hfl⟩,⟨Nat.le_trans k1.len k2.len,fun q h1' h2' h3'=>?_,fun q hq=>?_,k2.hb⟩,fun q h1' h2'=>k1.same q h1' h2'⟩
 ·rcases k2.new q hm with e | e
  ·exact W.off q hq e
  ·have:=h1.lt q hq; omega
 ·rw[k2.same q (Nat.lt_of_lt_of_le h1' k1.len) h3',k1.same q h1' h2']
 ·rcases k2.new q hq with e | e
  ·exact .inl e
  ·exact .inr (Nat.le_trans k1.len e)
theorem FH {c:Prop} [Decidable c] {r r':Int × HM} {n:Nat} (h:c→r.2.fw.length≤n) (h':¬ c→r'.2.fw.length≤n):(if c then r else r').2.fw.length≤n:=by
 split
 ·exact h ‹_›
 ·exact h' ‹_›
theorem sv (m:HM) (x:Ye):(lE m x).2.fw.length≤m.fw.length+1:=by
 have s:m.fw.length≤m.fw.length+1:=by omega
 unfold lE
 refine FH (fun _=>?_) fun _=>?_
 ·unfold Cw; exact FH (fun _=>FH (fun _=>s) fun _=>s) fun _=>s
 refine FH (fun _=>?_) fun _=>?_
 ·unfold Cw; exact FH (fun _=>FH (fun _=>s) fun _=>s) fun _=>s
 refine FH (fun _=>?_) fun _=>?_
 ·unfold Jb; exact FH (fun _=>FH (fun _=>s) fun _=>s) fun _=>s
 refine FH (fun _=>?_) fun _=>?_
 ·unfold OR; exact FH (fun _=>s) fun _=>s
 refine FH (fun _=>?_) fun _=>?_
 ·unfold CC
  split
  ·split
   ·exact s
   ·exact s
  ·exact s
 refine FH (fun _=>?_) fun _=>?_
 ·unfold Rh; exact FH (fun _=>s) fun _=>s
 refine FH (fun _=>?_) fun _=>?_
 ·unfold jh; exact FH (fun _=>FH (fun _=>by show (SI _ _ m.fw).length≤_; rw[g9]; split <;> omega) fun _=>s) fun _=>s
 refine FH (fun _=>?_) fun _=>?_
 ·unfold Yb; exact FH (fun _=>FH (fun _=>s) fun _=>s) fun _=>s
 refine FH (fun _=>?_) fun _=>?_
 ·unfold UH; exact FH (fun _=>s) fun _=>s
 refine FH (fun _=>?_) fun _=>?_
 ·unfold jr
  refine FH (fun _=>?_) fun _=>s
  split
  ·exact s
  ·exact FH (fun _=>s) fun _=>s
 refine FH (fun _=>?_) fun _=>?_
 ·unfold ir; exact FH (fun _=>s) fun _=>s
 refine FH (fun _=>?_) fun _=>?_
 ·unfold ir; exact FH (fun _=>s) fun _=>s
 exact FH (fun _=>Nat.zero_le _) fun _=>s
end Go.Proofs.YtlaplcglpnlieaaGreat
end
section
namespace Go.Proofs.YtlaplcglpnlieaaGreat
open Go Go.AX
noncomputable local instance qSN:Bb:=Az
local instance zx:Kn:=⟨true⟩
def xC (σ:Aa) (p:Option Addr):Prop:=
 p=none ∨ ∃ h T rw,p=some ⟨h,0,none⟩∧σ[h]?=some (.cells [.slice none 0 0,.slice none 0 0,.pointer none,.pointer none,.map none,.map none,.int .i64 0] T rw)
theorem xC.app {σ:Aa} {p:Option Addr} (h:xC σ p) (τ:Aa):xC (σ++τ) p:=by
 rcases h with h | ⟨b,T,rw,h1,h2⟩
 ·exact .inl h
 ·refine .inr ⟨b,T,rw,h1, ?_⟩
  rw[List.getElem?_append_left (List.getElem?_eq_some_iff.1 h2).1]; exact h2
end Go.Proofs.YtlaplcglpnlieaaGreat
end
section
set_option maxRecDepth 10000
namespace Go.Proofs.YtlaplcglpnlieaaGreat
open Go Go.AX
noncomputable local instance ym:Bb:=Az
local instance yl:Kn:=⟨true⟩
end Go.Proofs.YtlaplcglpnlieaaGreat
end
section
set_option maxRecDepth 10000
namespace Go.Proofs.YtlaplcglpnlieaaGreat
open Go Go.AX
noncomputable local instance qST:Bb:=Az
local instance zy:Kn:=⟨true⟩
variable {σ:Aa}
end Go.Proofs.YtlaplcglpnlieaaGreat
end
section
namespace Go.Proofs.YtlaplcglpnlieaaGreat
open Go Go.AX
noncomputable local instance qSI:Bb:=Az
local instance zw:Kn:=⟨true⟩
variable {σ:Aa} {m:HM} {t:RM} {i:CU} {j:RI}
theorem nQ (k:Nat) (hk:5000≤k) (W:hO σ i j m t):∃ σ1 σ2 i' j',Hi (k+13) (BN i) σ=some (.pointer (BN i'),σ1)∧GK (k+13) (AY j) σ1=some (.pointer (AY j'),σ2)∧hO σ2 i' j' m t∧(∀ q,q<σ.length→σ2[q]?=σ[q]?)∧(∀ q,q<σ.length→q ∉ i'.l∧q ∉ j'.l)∧σ.length≤σ2.length:=by
 obtain ⟨τ,i',e1,h1,lo1⟩:=rO (k+10) W.h
 obtain ⟨σ1,hσ1⟩:∃ σ1,σ++τ=σ1:=⟨_,rfl⟩
 have g1:RG σ1 j m t:=hσ1 ▸ W.g.app τ
 rw[hσ1] at e1 h1
 have l1:σ.length≤σ1.length:=by rw[← hσ1]; simp
 obtain ⟨σ2,j',e2,r2,lo2,s2,l2⟩:=rf (k+11) (by omega) g1 (by have:=W.fl; omega)
 have h2:Ah σ2 i' m:=h1.Cx fun q hq=>s2 q (h1.lt q hq)
 refine ⟨σ1,σ2,i',j',e1,e2,⟨h2,⟨r2,W.g.sim,W.g.inv,W.g.inv2,W.g.wl,W.g.nb,W.g.nt⟩,W.P,W.z,W.b0,fun q hq hm=>?_,W.br,W.fl⟩,fun q hq=>?_,fun q hq=>⟨fun hm=>?_,fun hm=>?_⟩,by omega⟩
 ·have:=lo2 q hm; have:=h1.lt q hq; omega
 ·rw[s2 q (by omega),← hσ1,List.getElem?_append_left hq]
 ·have:=lo1 q hm; omega
 ·have:=lo2 q hm; omega
end Go.Proofs.YtlaplcglpnlieaaGreat
end
section
namespace Go.Proofs.YtlaplcglpnlieaaGreat
open Go Go.AX
noncomputable local instance zJ:Bb:=Az
local instance yK:Kn:=⟨true⟩
variable {σ:Aa} {i:CU} {m:HM}
structure AS where
 s:Int
 p:Int
 c:Int
 l:Int
 oc:Int
 ol:Int
def AS.row (a:AS) (hb:Nat):List Value:=[.pointer (some ⟨hb,0,none⟩),.int .i64 a.s,.int .i64 a.p,.int .i64 a.c,.int .i64 a.l,.int .i64 a.oc,.int .i64 a.ol]
def Cs (σ:Aa) (ab:Nat) (i:CU) (a:AS):Prop:=σ[ab]?=some (.cells (a.row i.hb) Ba true)
structure AS.ok (a:AS):Prop where
 s0:0≤a.s∧a.s<8
 p0:0≤a.p∧a.p<5
 c0:0≤a.c∧a.c≤10000
 l0:0≤a.l∧a.l≤10000
 oc0:0≤a.oc∧a.oc≤10000
 ol0:0≤a.ol∧a.ol≤10000
abbrev Ct (ab:Nat):Option Addr:=some ⟨ab,0,none⟩
variable {ab:Nat} {a:AS}
theorem Cs.Z2 (h:Cs σ ab i a):J4 σ ab 0=some (BN i):=by unfold Cs AS.row at h; simp[J4,Gr,h,TZ]
theorem Cs.l1 (h:Cs σ ab i a):Ak .i64 σ ab 1=some a.s:=by unfold Cs AS.row at h; simp[Ak,Gr,h,Bu]
theorem Cs.l2 (h:Cs σ ab i a):Ak .i64 σ ab 2=some a.p:=by unfold Cs AS.row at h; simp[Ak,Gr,h,Bu]
theorem Cs.l3 (h:Cs σ ab i a):Ak .i64 σ ab 3=some a.c:=by unfold Cs AS.row at h; simp[Ak,Gr,h,Bu]
theorem Cs.l4 (h:Cs σ ab i a):Ak .i64 σ ab 4=some a.l:=by unfold Cs AS.row at h; simp[Ak,Gr,h,Bu]
theorem Cs.l5 (h:Cs σ ab i a):Ak .i64 σ ab 5=some a.oc:=by unfold Cs AS.row at h; simp[Ak,Gr,h,Bu]
theorem Cs.l6 (h:Cs σ ab i a):Ak .i64 σ ab 6=some a.ol:=by unfold Cs AS.row at h; simp[Ak,Gr,h,Bu]
theorem Cs.lt (h:Cs σ ab i a):ab<σ.length:=Af h
theorem Cs.Cx {σ':Aa} (h:Cs σ ab i a) (hs:σ'[ab]?=σ[ab]?):Cs σ' ab i a:=by unfold Cs; rw[hs]; exact h
theorem Cs.app (h:Cs σ ab i a) (τ:Aa):Cs (σ++τ) ab i a:=h.Cx (List.getElem?_append_left h.lt)
theorem Cs.Zm {σ':Aa} (h:Cs σ ab i a) (k:BZ i σ σ') (hab:ab ∉ i.l):Cs σ' ab i a:=h.Cx (k.same ab h.lt hab)
theorem Cs.put (h:Cs σ ab i a) (a':AS):Cs (σ.set ab (.cells (a'.row i.hb) Ba true)) ab i a':=by
 unfold Cs; rw[List.getElem?_set_self h.lt]
theorem Cs.st (h:Cs σ ab i a) (o:Nat) (vs:List Value) (a':AS) (hv:AN (a.row i.hb) o vs=a'.row i.hb) (hl:o+vs.length≤7):Ip σ ab o vs=some (σ.set ab (.cells (a'.row i.hb) Ba true)):=by
 have h':=h
 unfold Cs at h'
 simp only[Ip,h']
 rw[if_pos (by simpa [AS.row] using hl),hv]
theorem Cs.Gn (h:Cs σ ab i a) (o:Nat) (v:Value) (a':AS) (hv:(a.row i.hb).set o v=a'.row i.hb) (hl:o<7):AX.Gn σ ab o v=some (σ.set ab (.cells (a'.row i.hb) Ba true)):=by
 have h':=h
 unfold Cs at h'
 simp only[AX.Gn,h']
 rw[if_pos (by simpa [AS.row] using hl),hv]
structure C2 (i:CU) (ab:Nat) (σ σ':Aa):Prop where
 len:σ.length≤σ'.length
 same:∀ j,j<σ.length→j ∉ i.l→j≠ab→σ'[j]?=σ[j]?
theorem C2.of {σ':Aa} (h:BZ i σ σ'):C2 i ab σ σ':=⟨h.len,fun j h1 h2 _=>h.same j h1 h2⟩
theorem C2.trans {x y z:Aa} (h:C2 i ab x y) (g:C2 i ab y z):C2 i ab x z:=
 ⟨Nat.le_trans h.len g.len,fun j h1 h2 h3=>(g.same j (Nat.lt_of_lt_of_le h1 h.len) h2 h3).trans (h.same j h1 h2 h3)⟩
theorem C2.app (σ τ:Aa):C2 i ab σ (σ++τ):=.of (BZ.app i σ τ)
theorem C2.set (σ:Aa) (o:AJ):C2 i ab σ (σ.set ab o):=⟨by simp,fun j _ _ h=>List.getElem?_set_ne fun e=>h e.symm⟩
theorem C2.refl (σ:Aa):C2 i ab σ σ:=.of (BZ.refl i σ)
theorem Ah.TU (h:Ah σ i m) (hab:ab ∉ i.l) (o:AJ):Ah (σ.set ab o) i m:=h.Cx fun j hj=>List.getElem?_set_ne fun e=>hab (by rw[e]; exact hj)
theorem wR (x:Addr):PX P Fw (.pointer (some x)) (.pointer none)=some false:=by kernel_rfl
theorem xJ (x:Addr):PX P Ja (.pointer (some x)) (.pointer none)=some false:=by kernel_rfl
theorem WM (k:Nat) (hA:Cs σ ab i a):AE (k+1) (Ct ab) σ=some (.bool true,σ):=by
 rw[Mx,Ks]
 simp only[wR,Option.bind_some,Bool.not_false,cond_true,Nat.zero_add,Nat.add_zero,hA.Z2,xJ]
def U0 (m:HM):Nat→Nat→Option Nat
 | 0,_=>none
 | n+1,x=>if (m.bls.getD x (0,0)).1=0∧(m.bls.getD x (0,0)).2=0 then some x else U0 m n (x+1)
def Tv (m:HM):Option Nat:=U0 m (m.bls.length-1) 1
def HE (m:HM) (b:Nat) (s:Int):HM:=(Cw m (b:Int) 1 1 s 0 0).2
theorem qu (m:HM) {x:Nat} {s:Int} (h1:1≤x) (hx:x<m.bls.length) (hs:0≤s∧s<8):
  Cw m (x:Int) 1 1 s 0 0=if (m.bls.getD x (0,0)).1=0∧(m.bls.getD x (0,0)).2=0 then (0,HE m x s) else (8,m):=by
 have e:(1≤(x:Int)∧(x:Int)<(m.bls.length:Int)∧(1:Int)≤1∧(1:Int)≤(m.bls.length:Int)-(x:Int)∧X3 s=true):=⟨by omega,by omega,by omega,by omega,by unfold X3; simpa using hs⟩
 have u:Jv m.bls x 1 0=if (m.bls.getD x (0,0)).1=0∧(m.bls.getD x (0,0)).2=0 then none else some 0:=by
  simp only[Jv,Nat.add_zero]
 unfold HE Cw
 rw[if_pos e,Int.toNat_natCast,show (1:Int).toNat=1 from rfl,u]
 by_cases hf:(m.bls.getD x (0,0)).1=0∧(m.bls.getD x (0,0)).2=0
 ·simp only[hf,and_self,if_true]
 ·simp only[hf,if_false]; simp
theorem KB {n x b:Nat} (h:U0 m n x=some b):x≤b∧b<x+n∧(m.bls.getD b (0,0)).1=0∧(m.bls.getD b (0,0)).2=0:=by
 induction n generalizing x with
 | zero=>cases h
 | succ n ih=>
   unfold U0 at h
   split at h
   ·cases h; omega
   ·have:=ih h; omega
def IC (x y:Int):AJ:=.cells [.int .i64 x,.int .i64 y] EB true
theorem c9 (k:Nat) (hk:5000≤k) (hab:ab ∉ i.l) (hs:0≤a.s∧a.s<8) {h1:Nat} (hh1:h1 ∉ i.l) (hha:h1≠ab):∀ (n x f:Nat) (σ:Aa),Ah σ i m→Cs σ ab i a→σ[h1]?=some (IC 0 0)→1≤x→x+n=m.bls.length→n<f →
  ∃ σ',Cf (k+8) f (Ct ab) h1 (x:Int) σ=some (match U0 m n x with | some b=>(.ret,[.bool true],σ') | none=>(.exit 0,[],σ'))∧Ah σ' i (match U0 m n x with | some b=>HE m b a.s | none=>m) ∧
   σ'[h1]?=some (match U0 m n x with | some b=>IC (64*(b:Int)) (64*(b:Int)+64) | none=>IC 0 0)∧σ.length≤σ'.length ∧ ∀ q,q<σ.length→q ∉ i.l→q≠h1→σ'[q]?=σ[q]?
 | n,x,0,σ,h,hA,hc,hx,hn,hf=>by omega
 | 0,x,f+1,σ,h,hA,hc,hx,hn,hf=>by
   rw[Ha,FM]
   refine ⟨σ, ?_,h,hc,Nat.le_refl _,fun _ _ _ _=>rfl⟩
   simp only[Option.bind_some,Nat.add_zero,hA.Z2,I4 (k+6) h,Am,decide_eq_false (show ¬ (x:Int)<((m.bls.length:Nat):Int) by omega),cond_false,U0]
 | n+1,x,f+1,σ,h,hA,hc,hx,hn,hf=>by
   have hnt:=h.nt
   obtain ⟨σ1,e1,g1,k1⟩:=dP (k+1) (by omega) h (x:Int) a.s (by unfold AV; omega)
   have hA1:=hA.Zm k1 hab
   rw[qu m hx (by omega) hs] at e1 g1
   have hc1:=(k1.same h1 (Af hc) hh1).trans hc
   have w1:Ae ((x:Int)+1)=((x+1:Nat):Int):=Ad (by unfold AV; omega)
   have w2:Ae ((x:Int)*64)=64*(x:Int):=by rw[Ad (by unfold AV; omega)]; omega
   have w3:Ae (((x+1:Nat):Int)*64)=64*(x:Int)+64:=by rw[Ad (by unfold AV; omega)]; omega
   rw[Ha,FM]
   simp only[Option.bind_some,Nat.add_zero,hA.Z2,I4 (k+6) h,Am,decide_eq_true (show (x:Int)<((m.bls.length:Nat):Int) by omega),cond_true,Nat.zero_add,hA.l1,e1,U0]
   by_cases hfr:(m.bls.getD x (0,0)).1=0∧(m.bls.getD x (0,0)).2=0
   ·simp only[hfr,and_self,if_true] at g1 ⊢
    refine ⟨σ1.set h1 (IC (64*(x:Int)) (64*(x:Int)+64)), ?_,g1.Cx fun j hj=>List.getElem?_set_ne fun e=>hh1 (by rw[e]; exact hj),by rw[List.getElem?_set_self (Af hc1)],by simpa using k1.len,fun q hq h2 h3=>by rw[List.getElem?_set_ne (fun e=>h3 e.symm)]; exact k1.same q hq h2⟩
    simp only[beq_self_eq_true,cond_true,w1,w2,w3,Ip,hc1,IC]
    rfl
   ·simp only[hfr,if_false] at g1 ⊢
    obtain ⟨σ2,e2,g2,c2,l2,s2⟩:=c9 k hk hab hs hh1 hha n (x+1) f σ1 g1 hA1 hc1 (by omega) (by omega) (by omega)
    refine ⟨σ2, ?_,g2,c2,Nat.le_trans k1.len l2,fun q hq h2 h3=>by rw[s2 q (Nat.lt_of_lt_of_le hq k1.len) h2 h3]; exact k1.same q hq h2⟩
    simp only[show ((8:Int) == 0)=false from rfl,cond_false,w1,e2]
def ba (m:HM):Int × Int × Bool:=match Tv m with | some b=>(64*(b:Int),64*(b:Int)+64,true) | none=>(0,0,false)
def WU (m:HM) (s:Int):HM:=match Tv m with | some b=>HE m b s | none=>m
theorem eH (k:Nat) (hk:5000≤k) (h:Ah σ i m) (hA:Cs σ ab i a) (hab:ab ∉ i.l) (hs:0≤a.s∧a.s<8):
  ∃ σ',B7 (k+9) (Ct ab) σ=some (.tuple #[.agg #[.int .i64 (ba m).1,.int .i64 (ba m).2.1],.bool (ba m).2.2],σ')∧Ah σ' i (WU m a.s)∧BZ i σ σ':=by
 have hnt:=h.nt; have hnb:=h.nb
 have hlt:=hA.lt
 obtain ⟨σ1,e1,g1,c1,l1,s1⟩:=c9 k hk hab hs (h1:=σ.length) (fun hm=>Nat.lt_irrefl _ (h.lt _ hm)) (by omega) (m.bls.length-1) 1 (k+8) (σ++[IC 0 0]) (h.app _) (hA.app _) (by simp) (Nat.le_refl _) (by omega) (by omega)
 have kp:BZ i σ σ1:=⟨by simp at l1; omega,fun q hq h2=>by rw[s1 q (by simp; omega) h2 (by omega),List.getElem?_append_left hq]⟩
 rw[LJ,JC]
 simp only[An,show (AJ.cells [.int .i64 0,.int .i64 0] EB true)=IC 0 0 from rfl]
 rw[show ((1:Nat):Int)=1 from rfl] at e1
 unfold ba WU Tv
 simp only[e1]
 cases hfr:U0 m (m.bls.length-1) 1 with
 | none=>
   simp only[hfr] at g1 c1
   refine ⟨σ1.set σ.length (IC 0 0), ?_,g1.Cx fun j hj=>List.getElem?_set_ne fun e=>Nat.lt_irrefl σ.length (by have:=h.lt _ hj; omega),kp.trans ⟨by simp,fun q hq h2=>?_⟩⟩
   ·simp only[Option.bind_some,if_true,Ip,c1,IC,R5]
    simp[AN,LV,List.getElem?_set_self (Af c1)]
   ·rcases Nat.lt_trichotomy q σ.length with e | e | e
    ·rw[List.getElem?_set_ne (by omega)]
    ·rw[e,List.getElem?_set_self (Af c1),c1]
    ·rw[List.getElem?_set_ne (by omega)]
 | some b=>
   simp only[hfr] at g1 c1
   refine ⟨σ1, ?_,g1,kp⟩
   simp only[Option.bind_some,show (Br.ret=Br.exit 0)=False from by simp,if_false,if_true,VK,R5,c1,IC]
   rfl
def W8 (m:HM) (b:Int):Int:=if 0≤b∧b<(m.bls.length:Int) then (m.bls.getD b.toNat (0,0)).2 else -1
theorem ua (k:Nat) (h:Ah σ i m) (b:Int):B5 (k+3) (BN i) b σ=some (.int .i64 (W8 m b),σ):=by
 unfold W8
 by_cases hb:0≤b∧b<(m.bls.length:Int)
 ·rw[if_pos hb]
  obtain ⟨n,rfl⟩:∃ n:Nat,b=(n:Int):=⟨b.toNat,by omega⟩
  rw[Int.toNat_natCast]
  exact eh k h (by omega)
 ·rw[if_neg hb,IM,IG]
  by_cases h0:b<0
  ·simp only[decide_eq_true h0,cond_true,Option.bind_some]
  ·simp only[decide_eq_false h0,cond_false,I4 k h,Option.bind_some,Am,decide_eq_true (show b≥((m.bls.length:Nat):Int) by omega),cond_true]
end Go.Proofs.YtlaplcglpnlieaaGreat
end
