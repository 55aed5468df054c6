/- The document's heap: a new one, and a copy.; The program's heap, asked anything; what calls keep.; Both heaps looked at.; What a call leaves of a memo -/
import Derived.Test.YtjbledomkmdkmaaGreatP27
import Derived.Test.YtjbledomkmdkmaaGreatP25
set_option linter.unusedVariables false
set_option linter.unusedSimpArgs false
set_option linter.unusedSectionVars false
section
namespace Go.Proofs.YtjbledomkmdkmaaGreat
open Go Go.AX
noncomputable local instance qSC:A9:=Aw
local instance nSC:Kn:=⟨true⟩
variable {σ:Aa} {m:HM} {t:RM} {i:RI}
theorem rY (n j:Nat):¬ Start (My n) j:=by
 rintro ⟨_,h⟩
 have:Ec 1 (My n).stw j=0:=ZV _ _ _
 omega
theorem Zd.new (n:Nat):Zd (My n) ⟨List.replicate n (0,0),[],[],0⟩:=by
 refine ⟨rfl, ?_,rfl,fun a=>rfl,rfl,trivial,trivial⟩
 have:FB (My n)=[]:=by
  cases h:FB (My n) with
  | nil=>rfl
  | cons j l=>exact absurd (Ew.1 (by rw[h]; exact List.mem_cons_self)) (rY n j)
 show []=GL (My n)
 unfold GL
 rw[this]; rfl
theorem OI.new (n:Nat):OI (My n):=fun j _ _=>ZV _ _ _
theorem FZ.new (n:Nat):FZ (My n):=by
 intro c _
 show ((List.replicate n ((0:Int),(0:Int))).getD c (0,0)).2=0
 rw[List.getD_eq_getElem?_getD,List.getElem?_replicate]
 split <;> rfl
theorem Ag6 (k:Nat) {n:Nat} (h2:2≤n) (h64:n≤64) (σ:Aa):∃ τ i,PE (k+1) (n:Int) σ=some (.tuple #[.pointer (Cq i),.int .i64 0],σ++τ)∧K5 (σ++τ) i ⟨List.replicate n (0,0),[],[],0⟩ ∧ ∀ j ∈ i.l,σ.length≤j:=by
 rw[o9,bO]
 try simp only[sw,Ad,Af,Ae]
 simp only[show decide ((n:Int)<2)=false from decide_eq_false (by omega),cond_false,show decide ((n:Int)>64)=false from decide_eq_false (by omega),Option.bind_some,AM]
 rw[if_pos (by omega)]
 simp only[Int.toNat_natCast,zr]
 obtain ⟨A,hA⟩:∃ A,A6.cells (Dd (List.replicate n (0,0))) Am true=A:=⟨_,rfl⟩
 rw[hA]
 refine ⟨[A]++[A6.cells [.slice (some ⟨σ.length,0,none⟩) n n,.slice none 0 0,.slice none 0 0,.int .i64 0] Dk true],⟨(σ++[A]).length,(some ⟨σ.length,0,none⟩,n,n),(none,0,0),(none,0,0),[]⟩,by rw[List.append_assoc], ?_, ?_⟩
 ·rw[← List.append_assoc]
  refine { hp:=by simp,bl:=.inr ⟨σ.length,by simp,Nat.zero_le _,by rw[KU]; omega,by rw[List.getElem?_append_left (by simp),← hA]; simp⟩,ob:=.inl ⟨rfl,rfl,rfl⟩,fw:=.inl (.inl ⟨rfl,rfl,rfl⟩),ol:=rfl,inn:=fun x h=>by simp at h,nd:=?_,lt:=?_ }
  ·simp[RI.l,hs]
  ·intro j hj
   simp[RI.l,hs] at hj
   simp
   omega
 ·intro j hj
  simp[RI.l,hs] at hj
  omega
theorem lG {E:TypeId} {s by_:Nat} {z:Value} (hs:IW P E=some s) (hb:bytesOf P E=some by_) (hz:FT P E=some z) (hz1:Hb z=false) (hz2:z.cells.size=s) (hs0:0<s) (hb0:0<by_) (hb1:by_≤1000)
  (σ:Aa) (p:Option Addr) (n c:Nat) (hn1:n≤100000) (row:List Value) (hr:row.length=n*s) (hf:Ds (σ++[.cells [] E true]) s p n=some row):
  ∃ s' τ,B9 P E (some ⟨σ.length,0,some 0⟩,0,0) (p,n,c) (σ++[.cells [] E true])=some (s',σ++[.cells [] E true]++τ)∧(0<n→s'=(some ⟨σ.length+1,0,none⟩,n,n)∧(σ++[.cells [] E true]++τ)[σ.length+1]?=some (.cells row E true))∧(n=0→s'=(some ⟨σ.length,0,some 0⟩,0,0)):=by
 by_cases h0:n=0
 ·subst h0
  refine ⟨(some ⟨σ.length,0,some 0⟩,0,0),[], ?_,fun h=>absurd h (Nat.lt_irrefl _),fun _=>rfl⟩
  unfold B9 Qf
  have h1:(¬ (Hb z=false∧some s=some z.cells.size∧0<z.cells.size))=False:=by
   rw[hz1,hz2]; simp[hs0]
  simp only[hs,hb,hz,hf,Option.bind_some,h1,if_false,Nat.add_zero,Nat.le_refl,if_true,Is,Option.isSome_some,cond_true,slK,List.append_nil]
 ·have e:=xj hs hb hz hz1 hz2 hs0 hb0 hb1 σ p n c (by omega) hn1 row hf
  refine ⟨_,[.cells row E true], ?_,fun _=>⟨rfl, ?_⟩,fun h=>absurd h h0⟩
  ·rw[e]; simp
  ·rw[List.getElem?_append_right (by simp)]; simp
theorem Fg.first {s:Ce} {l:List Int} (h:Fg σ s l):Ds σ 1 s.1 l.length=some (Bm l):=by
 by_cases hl:l=[]
 ·subst hl
  cases hs:s.1 with
  | none=>rfl
  | some a=>
    obtain ⟨cs,T,w,h1,h2⟩:=h.2.2 a hs
    simp only[Ds,ZA,h1,List.length_nil,Nat.zero_mul,Nat.add_zero,h2,if_true,List.take_zero]
    rfl
 ·obtain ⟨b,c,rfl,hc⟩:=h.2.1 hl
  simp only[Ds,ZA,hc,EI,Nat.zero_add,Nat.mul_one,Nat.le_refl,if_true,List.drop_zero]
  rw[List.take_of_length_le (by rw[EI]; exact Nat.le_refl _)]
theorem EM.first {E:TypeId} {s n:Nat} {sl:Ce} {row:List Value} (h:EM E s σ sl n row):Ds σ s sl.1 n=some row:=by
 rcases h with ⟨rfl,rfl,rfl⟩ | ⟨b,rfl,_,hl,hc⟩
 ·rfl
 ·simp only[Ds,ZA,hc,hl,Nat.zero_add,Nat.le_refl,if_true,List.drop_zero]
  rw[List.take_of_length_le (Nat.le_of_eq hl)]
theorem Aa1 (σ:Aa) (s:Ce) (l:List Int) (hl:l.length≤100000) (h:Fg σ s l):
  ∃ s' τ,B9 P As (some ⟨σ.length,0,some 0⟩,0,0) (s.1,s.2.1,s.2.2) (σ++[.cells [] As true])=some (s',σ++[.cells [] As true]++τ)∧Fg (σ++[.cells [] As true]++τ) s' l∧hs s'≠[] ∧ ∀ j ∈ hs s',j=σ.length∨j=σ.length+1∧j<(σ++[A6.cells [] As true]++τ).length:=by
 have hf:=(h.app [.cells [] As true]).first
 rw[← h.1] at hf
 obtain ⟨s',τ,e,h1,h2⟩:=lG sz3 by3 zz3 rfl rfl (by decide) (by decide) (by decide) σ s.1 s.2.1 s.2.2 (by rw[h.1]; exact hl) (Bm l) (by rw[EI,h.1,Nat.mul_one]) hf
 refine ⟨s',τ,e, ?_, ?_, ?_⟩
 ·by_cases h0:s.2.1=0
  ·rw[h2 h0]
   have hl0:l=[]:=List.length_eq_zero_iff.1 (by rw[← h.1]; exact h0)
   subst hl0
   exact ⟨rfl,fun hn=>absurd rfl hn,fun a ha=>by cases ha; exact ⟨[],As,true,by rw[List.getElem?_append_left (by simp)]; simp,Nat.le_refl _⟩⟩
  ·obtain ⟨q1,q2⟩:=h1 (by omega)
   rw[q1]
   exact ⟨h.1,fun _=>⟨σ.length+1,s.2.1,by rw[h.1],q2⟩,fun a ha=>by cases ha; exact ⟨_,_,_,q2,Nat.zero_le _⟩⟩
 ·by_cases h0:s.2.1=0
  ·rw[h2 h0]; simp[hs]
  ·rw[(h1 (by omega)).1]; simp[hs]
 ·intro j hj
  by_cases h0:s.2.1=0
  ·rw[h2 h0] at hj; simp[hs] at hj; exact .inl hj
  ·obtain ⟨q1,q2⟩:=h1 (by omega)
   rw[q1] at hj; simp only[hs,List.mem_singleton] at hj
   exact .inr ⟨hj,by rw[hj]; exact Al q2⟩
theorem All:IW P Am=some 2:=by kernel_rfl
theorem Alc:bytesOf P Am=some 16:=by kernel_rfl
theorem Alo:FT P Am=some (.agg #[.int .i64 0,.int .i64 0]):=by kernel_rfl
end Go.Proofs.YtjbledomkmdkmaaGreat
end
section
namespace Go.Proofs.YtjbledomkmdkmaaGreat
open Go Go.AX
noncomputable local instance qSD:A9:=Aw
local instance nSD:Kn:=⟨true⟩
variable {σ:Aa} {m:HM} {i:DD}
theorem mW (k:Nat) (h:An σ i m) (b:Int):AY (k+3) (AV i) b σ=some (.int .i64 (CE m b),σ):=by
 unfold CE
 by_cases hb:0≤b∧b<(m.bls.length:Int)
 ·rw[if_pos hb]
  obtain ⟨n,rfl⟩:∃ n:Nat,b=(n:Int):=⟨b.toNat,by omega⟩
  rw[Int.toNat_natCast]
  exact Acy k h (by omega)
 ·rw[if_neg hb,Mt,Jj]
  try simp only[sw,Ad,Af,Ae]
  by_cases h0:b<0
  ·simp only[decide_eq_true h0,cond_true,Option.bind_some]
  ·simp only[decide_eq_false h0,cond_false,Pt k h,Option.bind_some,Aj,decide_eq_true (show b≥((m.bls.length:Nat):Int) by omega),cond_true]
theorem Af2 (k:Nat) (h:An σ i m) (b:Int):BO (k+3) (AV i) b σ=some (.int .i64 (Rl m b),σ):=by
 unfold Rl
 by_cases hb:0≤b∧b<(m.bls.length:Int)
 ·rw[if_pos hb]
  obtain ⟨n,rfl⟩:∃ n:Nat,b=(n:Int):=⟨b.toNat,by omega⟩
  rw[Int.toNat_natCast]
  exact Acw k h (by omega)
 ·rw[if_neg hb,Ms,Ji]
  try simp only[sw,Ad,Af,Ae]
  by_cases h0:b<0
  ·simp only[decide_eq_true h0,cond_true,Option.bind_some]
  ·simp only[decide_eq_false h0,cond_false,Pt k h,Option.bind_some,Aj,decide_eq_true (show b≥((m.bls.length:Nat):Int) by omega),cond_true]
theorem zN (k:Nat) (hk:5000≤k) (h:An σ i m) (b:Int):∃ τ s,Ba (k+6) (AV i) b σ=some (.slice s.1 s.2.1 s.2.2,σ++τ)∧Ff σ.length (σ++τ) s (EU (Mz m b)):=by
 unfold Mz
 by_cases hb:0≤b∧b<(m.bls.length:Int)
 ·rw[if_pos hb]
  obtain ⟨n,rfl⟩:∃ n:Nat,b=(n:Int):=⟨b.toNat,by omega⟩
  rw[Int.toNat_natCast]
  exact nB k hk h (by omega)
 ·rw[if_neg hb,KW,H0]
  try simp only[sw,Ad,Af,Ae]
  refine ⟨[],(none,0,0), ?_,.inl ⟨rfl,rfl⟩⟩
  simp only[Lt _ h,Option.bind_some,Ar,Bool.not_true,cond_false,List.append_nil]
  by_cases h0:b<0
  ·simp only[decide_eq_true h0,cond_true,Option.bind_some]
  ·simp only[decide_eq_false h0,cond_false,Option.bind_some,Nat.zero_add,h.K2,decide_eq_true (show b≥((m.bls.length:Nat):Int) by omega),cond_true]
theorem Af1 (k:Nat) (h:An σ i m) (a:Int) (ha:AU a):∃ τ,AE (k+6) (AV i) a σ=some (.tuple #[if Ea m a then yj m (a.toNat/2) else yi,.int .i64 (if Ea m a then 0 else 4)],σ++τ):=by
 cases hh:Ea m a with
 | true=>
   obtain ⟨j,rfl,hs⟩:=Ek hh
   obtain ⟨τ,e⟩:=Acv k h hs
   refine ⟨τ, ?_⟩
   rw[e,show ((2*j:Nat):Int).toNat/2=j from by omega]
   rfl
 | false=>
   rw[Mr,Jh]
   try simp only[sw,Ad,Af,Ae]
   simp only[AM]
   have h1:=h.app [A6.cells [Value.int .i64 0,.int .i64 0,.int .i64 0] Ag true]
   have hN:∀ x y z:Value,ZA (σ++[A6.cells [x,y,z] Ag true]) σ.length 0 3=some [x,y,z]:=fun x y z=>by simp[ZA]
   refine ⟨[A6.cells [.int .i64 0,.int .i64 0,.int .i64 0] Ag true], ?_⟩
   simp only[UQ k h1 a ha,hh,Bool.false_eq_true,if_false,Option.bind_some,Aj,ne4,cond_true,Iv,hN,Og]
   rfl
theorem nL (k:Nat) (h:An σ i m) (hI:Inv m) (a x:Int) (ha:AU a):∃ τ,AA (k+7) (AV i) a x σ=some (.tuple #[.int .i64 (Y2 m a x false).1,.int .i64 (Y2 m a x false).2],σ++τ):=by
 obtain ⟨τ,e⟩:=oI k h hI a x ha false
 refine ⟨τ, ?_⟩
 rw[Vs,Oq]
 try simp only[sw,Ad,Af,Ae]
 simp only[e,Option.bind_some,Fs]
 unfold Y2
 by_cases h0:(DG m a x false).2=0
 ·rw[if_pos h0]
  have hf:0≤(DG m a x false).1∧(DG m a x false).1<(m.wds.length:Int):=by
   unfold DG at h0 ⊢
   split at h0
   ·rename_i hh
    obtain ⟨j,rfl,hs⟩:=Ek hh
    have hfit:=hI.fit j hs
    have hz:=hI.size hs
    simp only[show ((2*j:Nat):Int).toNat/2=j from by omega,Bool.false_eq_true,if_false] at h0 ⊢
    split at h0
    ·rename_i hx
     rw[if_pos (dF hs),if_pos hx]
     dsimp only
     omega
    ·cases h0
   ·cases h0
  obtain ⟨n,hn⟩:∃ n:Nat,(DG m a x false).1=(n:Int):=⟨(DG m a x false).1.toNat,by omega⟩
  have qx:(0≤(n:Int)∧(n:Int)<((m.wds.length:Nat):Int))=True:=eq_true (by omega)
  simp only[h0,hn,bne_self_eq_false,cond_false,Nat.zero_add,(h.app τ).GJ,Option.bind_some,qx,if_true,Int.toNat_natCast,Nat.mul_one,(h.app τ).ldW (show n<m.wds.length by omega)]
 ·rw[if_neg h0]
  simp only[bne_iff_ne.2 h0,cond_true]
theorem Aij (k:Nat) (h:An σ i m) (hI:Inv m) (a x:Int) (ha:AU a):∃ τ,HT (k+7) (AV i) a x σ=some (.tuple #[.int .i64 (Y2 m a x true).1,.int .i64 (Y2 m a x true).2],σ++τ):=by
 obtain ⟨τ,e⟩:=oI k h hI a x ha true
 refine ⟨τ, ?_⟩
 rw[dW,RH]
 try simp only[sw,Ad,Af,Ae]
 simp only[e,Option.bind_some,Fs]
 unfold Y2
 by_cases h0:(DG m a x true).2=0
 ·rw[if_pos h0]
  have hf:0≤(DG m a x true).1∧(DG m a x true).1<(m.wds.length:Int):=by
   unfold DG at h0 ⊢
   split at h0
   ·rename_i hh
    obtain ⟨j,rfl,hs⟩:=Ek hh
    have hfit:=hI.fit j hs
    have hz:=hI.size hs
    simp only[show ((2*j:Nat):Int).toNat/2=j from by omega,if_true] at h0 ⊢
    split at h0
    ·rename_i hx
     rw[if_pos (dF hs),if_pos hx]
     dsimp only
     omega
    ·cases h0
   ·cases h0
  obtain ⟨n,hn⟩:∃ n:Nat,(DG m a x true).1=(n:Int):=⟨(DG m a x true).1.toNat,by omega⟩
  have qx:(0≤(n:Int)∧(n:Int)<((m.wds.length:Nat):Int))=True:=eq_true (by omega)
  simp only[h0,hn,bne_self_eq_false,cond_false,Nat.zero_add,(h.app τ).GJ,Option.bind_some,qx,if_true,Int.toNat_natCast,Nat.mul_one,(h.app τ).ldW (show n<m.wds.length by omega)]
 ·rw[if_neg h0]
  simp only[bne_iff_ne.2 h0,cond_true]
theorem ze {c:Prop} [Decidable c] {r r':Int × HM} (h:c→FZ r.2) (h':¬ c→FZ r'.2):FZ (if c then r else r').2:=by
 split
 ·exact h ‹_›
 ·exact h' ‹_›
theorem tG {m':HM} (h:FZ m) (hb:m'.bls=m.bls):FZ m':=by unfold FZ; rw[hb]; exact h
theorem Aam (h:FZ m) (b c x y x' y':Int) (hx:x≠0) (hx':x'≠0∨c=1):FZ (De m b c x y x' y').2:=by
 unfold De
 refine ze (fun hc=>ze (fun hu=>?_) fun _=>h) fun _=>h
 intro d hd
 have hd:(((gj m.bls b.toNat (x',y') c.toNat 0).set b.toNat (x,y)).getD d (0,0)).1=0:=hd
 show (((gj m.bls b.toNat (x',y') c.toNat 0).set b.toNat (x,y)).getD d (0,0)).2=0
 rw[lM,KV] at hd ⊢
 by_cases h1:d=b.toNat∧b.toNat<m.bls.length
 ·rw[if_pos h1] at hd; exact absurd hd hx
 ·rw[if_neg h1] at hd ⊢
  rw[tw _ _ _ _ _ _ (by omega)] at hd ⊢
  split at hd
  ·rename_i hr
   rcases hx' with hx' | rfl
   ·exact absurd hd hx'
   ·rw[show (1:Int).toNat=1 from rfl] at hr
    exact absurd ⟨by omega,by omega⟩ h1
  ·rename_i hr
   rw[if_neg hr]; exact h d hd
theorem vV (h:FZ m) (b:Int):FZ (DJ m b).2:=by
 unfold DJ
 refine ze (fun hc=>ze (fun hu=>?_) fun _=>h) fun _=>h
 intro d hd
 have hd:((px m.bls b.toNat (Ok m b.toNat)).getD d (0,0)).1=0:=hd
 show ((px m.bls b.toNat (Ok m b.toNat)).getD d (0,0)).2=0
 rw[Y3] at hd ⊢
 split
 ·rfl
 ·rename_i hr
  rw[if_neg hr] at hd; exact h d hd
end Go.Proofs.YtjbledomkmdkmaaGreat
end
section
namespace Go.Proofs.YtjbledomkmdkmaaGreat
open Go Go.AX
noncomputable local instance qSE:A9:=Aw
local instance nSE:Kn:=⟨true⟩
variable {σ:Aa} {m:HM} {t:RM} {i:DD} {j:RI}
structure Two (σ:Aa) (i:DD) (j:RI) (m:HM) (t:RM):Prop where
 h:An σ i m
 g:RG σ j m t
 P:OI m
 z:FZ m
 b0:B0 m
 off:∀ q ∈ i.l,q ∉ j.l
 br:m.births≤1000
 fl:m.fw.length≤1000
theorem Two.app (T:Two σ i j m t) (τ:Aa):Two (σ++τ) i j m t:=⟨T.h.app τ,T.g.app τ,T.P,T.z,T.b0,T.off,T.br,T.fl⟩
def Au (m:HM) (a:Int):Int × Int × Int:=if Ea m a then (A5 m (a.toNat/2),BN m (a.toNat/2),Fm m (a.toNat/2)) else (0,0,0)
theorem w9 (m:HM) (a:Int):(if Ea m a then yj m (a.toNat/2) else yi) = .agg #[.int .i64 (Au m a).1,.int .i64 (Au m a).2.1,.int .i64 (Au m a).2.2]:=by
 unfold Au; split <;> rfl
theorem UU (hI:Inv m) (a:Int):0≤(Au m a).1∧(Au m a).1≤200∧0≤(Au m a).2.1∧(Au m a).2.1≤200:=by
 unfold Au
 split
 ·rename_i hh
  obtain ⟨j,rfl,hs⟩:=Ek hh
  obtain ⟨_,r1,r2,r3,r4,_⟩:=YY hI hs
  rw[show ((2*j:Nat):Int).toNat/2=j from by omega]
  dsimp only
  omega
 ·dsimp only; omega
end Go.Proofs.YtjbledomkmdkmaaGreat
end
section
namespace Go.Proofs.YtjbledomkmdkmaaGreat
open Go Go.AX
noncomputable local instance qGA:A9:=Aw
local instance nGA:Kn:=⟨true⟩
variable {σ:Aa}
structure Mv (L L':List Nat) (σ σ':Aa):Prop where
 len:σ.length≤σ'.length
 same:∀ q,q<σ.length→q ∉ L→σ'[q]?=σ[q]?
 new:∀ q,q ∈ L'→q ∈ L∨σ.length≤q
theorem Mv.refl (L:List Nat) (σ:Aa):Mv L L σ σ:=⟨Nat.le_refl _,fun _ _ _=>rfl,fun _ h=>.inl h⟩
theorem Mv.app (L:List Nat) (σ τ:Aa):Mv L L σ (σ++τ):=⟨by simp,fun q h _=>List.getElem?_append_left h,fun _ h=>.inl h⟩
theorem Mv.trans {L L' L'':List Nat} {a b c:Aa} (h:Mv L L' a b) (g:Mv L' L'' b c):Mv L L'' a c:=by
 refine ⟨Nat.le_trans h.len g.len,fun q h1 h2=>?_,fun q hq=>?_⟩
 ·refine (g.same q (Nat.lt_of_lt_of_le h1 h.len) fun hm=>?_).trans (h.same q h1 h2)
  rcases h.new q hm with h3 | h3
  ·exact h2 h3
  ·omega
 ·rcases g.new q hq with h1 | h1
  ·exact h.new q h1
  ·exact .inr (Nat.le_trans h.len h1)
theorem Mv.wide {L L' K K':List Nat} {a b:Aa} (h:Mv L L' a b) (h1:∀ q ∈ L,q ∈ K) (h2:∀ q ∈ K',q ∈ K∨q ∈ L'∨a.length≤q):Mv K K' a b:=
 ⟨h.len,fun q hq hn=>h.same q hq fun hm=>hn (h1 q hm),fun q hq=>by
  rcases h2 q hq with e | e | e
  ·exact .inl e
  ·exact (h.new q e).imp (h1 q) id
  ·exact .inr e⟩
theorem Mv.left {L L':List Nat} {a b:Aa} (h:Mv L L' a b) (X:List Nat):Mv (L++X) (L'++X) a b:=
 h.wide (fun q hq=>List.mem_append.2 (.inl hq)) fun q hq=>(List.mem_append.1 hq).elim (fun e=>.inr (.inl e)) fun e=>.inl (List.mem_append.2 (.inr e))
theorem Mv.right {L L':List Nat} {a b:Aa} (h:Mv L L' a b) (X:List Nat):Mv (X++L) (X++L') a b:=
 h.wide (fun q hq=>List.mem_append.2 (.inr hq)) fun q hq=>(List.mem_append.1 hq).elim (fun e=>.inl (List.mem_append.2 (.inl e))) fun e=>.inr (.inl e)
theorem Mv.GI {L L' X:List Nat} {a b:Aa} (h:Mv L L' a b) (hx:∀ q ∈ X,q<a.length) (hd:∀ q ∈ X,q ∉ L):(∀ q ∈ X,b[q]?=a[q]?)∧(∀ q ∈ X,q ∉ L') ∧ ∀ q ∈ X,q<b.length:=
 ⟨fun q hq=>h.same q (hx q hq) (hd q hq),fun q hq hm=>(h.new q hm).elim (hd q hq) fun e=>absurd (hx q hq) (Nat.not_lt.2 e),fun q hq=>Nat.lt_of_lt_of_le (hx q hq) h.len⟩
theorem Mv.nil {L':List Nat} {a b:Aa} (h:Mv [] L' a b) (L:List Nat):Mv L (L'++L) a b:=by
 have:=h.left L
 rw[List.nil_append] at this
 exact this
theorem Bu.mv {i:DD} {a b:Aa} (h:Bu i a b):Mv i.l i.l a b:=⟨h.len,h.same,fun _ h=>.inl h⟩
theorem Ib.mv {i i':RI} {a b:Aa} (h:Ib i i' a b):Mv i.l i'.l a b:=⟨h.len,h.same,h.new⟩
theorem Mv.set {L:List Nat} {q:Nat} (σ:Aa) (o:A6) (h:q ∈ L):Mv L L σ (σ.set q o):=
 ⟨by simp,fun j _ h2=>List.getElem?_set_ne (fun e=>h2 (by rw[← e]; exact h)),fun _ h=>.inl h⟩
theorem Mv.SB {L L':List Nat} {a b:Aa} (h:Mv L L' a b) {q:Nat} {o:A6} (hq:a[q]?=some o) (hn:q ∉ L):b[q]?=some o:=(h.same q (Al hq) hn).trans hq
def B6 (σ:Aa) (s:Ce) (l:List Int):Prop:=EM As 1 σ s l.length (Bm l)∨(l=[] ∧ ∃ b cs T w,s=(some ⟨b,0,some 0⟩,0,0)∧σ[b]?=some (.cells cs T w))
theorem B6.AG {σ':Aa} {s:Ce} {l:List Int} (h:B6 σ s l) (hq:∀ b ∈ hs s,σ'[b]?=σ[b]?):B6 σ' s l:=by
 rcases h with h | ⟨h0,b,cs,T,w,rfl,hc⟩
 ·exact .inl (h.AG fun a ha=>hq _ (Ch.2 ⟨a,ha,rfl⟩))
 ·exact .inr ⟨h0,b,cs,T,w,rfl,(hq _ (Ch.2 ⟨_,rfl,rfl⟩)).trans hc⟩
theorem B6.lt {s:Ce} {l:List Int} (h:B6 σ s l):∀ b ∈ hs s,b<σ.length:=by
 intro b hb
 obtain ⟨a,ha,rfl⟩:=Ch.1 hb
 rcases h with h | ⟨h0,b,cs,T,w,rfl,hc⟩
 ·exact h.lt a ha
 ·cases ha; exact Al hc
theorem B6.app {s:Ce} {l:List Int} (h:B6 σ s l) (τ:Aa):B6 (σ++τ) s l:=h.AG fun b hb=>List.getElem?_append_left (h.lt b hb)
theorem B6.nil (σ:Aa):B6 σ (none,0,0) []:=.inl (EM.nil _ _ _)
theorem B6.form {s:Ce} {l:List Int} (h:B6 σ s l):s=(s.1,l.length,l.length):=by
 rcases h with h | ⟨rfl,b,cs,T,w,rfl,hc⟩
 ·exact h.form
 ·rfl
theorem B6.ints {lo:Nat} {s:Ce} {l:List Int} (h:Ff lo σ s l):B6 σ s l:=.inl h.sl
theorem B6.ld {s:Ce} {l:List Int} (h:B6 σ s l) {x:Nat} (hx:x<l.length):∃ b,s.1=some ⟨b,0,none⟩∧Dg .i64 σ b x=some (l.getD x 0)∧σ[b]?=some (.cells (Bm l) As true):=by
 rcases h with (⟨h,_⟩ | ⟨b,rfl,_,_,hc⟩) | ⟨rfl,_⟩
 ·omega
 ·exact ⟨b,rfl,Aee hc hx,hc⟩
 ·simp at hx
theorem B6.first {s:Ce} {l:List Int} (h:B6 σ s l):Ds σ 1 s.1 l.length=some (Bm l):=by
 rcases h with h | ⟨rfl,b,cs,T,w,rfl,hc⟩
 ·exact h.first
 ·simp[Ds,ZA,hc,Bm]
theorem B6.g {s:Ce} {l:List Int} (h:B6 σ s l):Fg σ s l:=by
 rcases h with (⟨h,h2,rfl⟩ | ⟨b,rfl,_,_,hc⟩) | ⟨rfl,b,cs,T,w,rfl,hc⟩
 ·have:l=[]:=List.length_eq_zero_iff.1 h
  subst this
  exact ⟨rfl,fun h=>absurd rfl h,fun a ha=>by cases ha⟩
 ·exact ⟨rfl,fun _=>⟨b,_,rfl,hc⟩,fun a ha=>by cases ha; exact ⟨_,_,_,hc,Nat.zero_le _⟩⟩
 ·exact ⟨rfl,fun h=>absurd rfl h,fun a ha=>by cases ha; exact ⟨_,_,_,hc,Nat.zero_le _⟩⟩
theorem Qd.mv {σ':Aa} {s s':Ce} (g:Qd σ s σ' s'):Mv (hs s) (hs s') σ σ':=by
 refine ⟨g.len,fun q hq hn=>g.same q hq fun a ha e=>hn (Ch.2 ⟨a,ha,e⟩),fun q hq=>?_⟩
 rcases g.new with rfl | hw
 ·exact .inl hq
 ·obtain ⟨a,ha,rfl⟩:=Ch.1 hq
  exact .inr (hw a ha)
theorem B6.push {s:Ce} {l:List Int} (h:B6 σ s l) (x:Int) (T:TypeId) (hl:l.length≤900000):
  ∃ s' σ',B9 P As (s.1,s.2.1,s.2.2) (some ⟨σ.length,0,none⟩,1,1) (σ++[.cells [.int .i64 x] T true])=some (s',σ')∧B6 σ' s' (l++[x])∧Mv (hs s) (hs s') σ σ':=by
 rcases h with h | ⟨rfl,b,cs,U,w,rfl,hc⟩
 ·obtain ⟨s',σ',e,g,h'⟩:=cN sz3 by3 zz3 rfl rfl (by decide) (by decide) (by decide) σ s l.length (Bm l) 1 1 [.int .i64 x] T (by omega) (by decide) rfl h
  refine ⟨s',σ',e,.inl ?_,g.mv⟩
  rw[List.length_append,UF]
  exact h'
 ·refine ⟨(some ⟨σ.length+1,0,none⟩,1,1),σ++[.cells [.int .i64 x] T true]++[.cells [.int .i64 x] As true], ?_,.inl (.inr ⟨σ.length+1,rfl,Nat.zero_le _,rfl,by simp[Bm]⟩), ?_⟩
  ·have hf:Ds (σ++[.cells [.int .i64 x] T true]) 1 (some ⟨σ.length,0,none⟩) 1=some [.int .i64 x]:=by simp[Ds,ZA]
   have hz:(¬ (Hb (.int .i64 0)=false∧some 1=some (Value.cells (.int .i64 0)).size∧0<(Value.cells (.int .i64 0)).size))=False:=by simp[Hb,Value.cells]
   have r:QG (0+1) 8∧0<8:=by unfold QG; decide
   unfold B9 Qf
   simp only[sz3,by3,zz3,Option.bind_some,hf,hz,if_false,show ¬ (0+1≤0) from by decide,r,and_self,if_true,Is,Option.isSome_some,cond_true,slK,List.length_append,List.length_cons,List.length_nil,Nat.zero_add]
  ·refine ⟨by simp,fun q hq _=>by rw[List.append_assoc,List.getElem?_append_left hq],fun q hq=>.inr ?_⟩
   simp[hs] at hq
   omega
def Dj (A B:List Nat):Prop:=∀ q ∈ A,q ∉ B
theorem Dj.symm {A B:List Nat} (h:Dj A B):Dj B A:=fun q hq hm=>h q hm hq
structure Fp (σ:Aa) (Ls:List (List Nat)):Prop where
 dj:Ls.Pairwise Dj
 lt:∀ L ∈ Ls,∀ q ∈ L,q<σ.length
theorem Aes {α:Type} {R:α→α→Prop} (hs:∀ a b,R a b→R b a):∀ (l:List α) (x:Nat) (b:α),l.Pairwise R→(∀ y (hy:y<l.length),y≠x→R b l[y])→(l.set x b).Pairwise R
 | [],_,_,_,_=>by simp
 | a::l,0,b,h,hb=>by
   rw[List.set_cons_zero]
   obtain ⟨_,h2⟩:=List.pairwise_cons.1 h
   refine List.pairwise_cons.2 ⟨fun c hc=>?_,h2⟩
   obtain ⟨y,hy,rfl⟩:=List.getElem_of_mem hc
   exact hb (y+1) (by simpa using hy) (by omega)
 | a::l,x+1,b,h,hb=>by
   rw[List.set_cons_succ]
   obtain ⟨h1,h2⟩:=List.pairwise_cons.1 h
   refine List.pairwise_cons.2 ⟨fun c hc=>?_,Aes hs l x b h2 fun y hy hne=>hb (y+1) (by simpa using hy) (by omega)⟩
   rcases List.mem_or_eq_of_mem_set hc with hc | rfl
   ·exact h1 c hc
   ·exact hs _ _ (hb 0 (by simp) (by omega))
theorem Aer {α:Type} {R:α→α→Prop} (hs:∀ a b,R a b→R b a) {l:List α} (h:l.Pairwise R) {x y:Nat} (hx:x<l.length) (hy:y<l.length) (hne:y≠x):R l[x] l[y]:=by
 rcases Nat.lt_or_gt_of_ne hne with h' | h'
 ·exact hs _ _ (List.pairwise_iff_getElem.1 h y x hy hx h')
 ·exact List.pairwise_iff_getElem.1 h x y hx hy h'
theorem Fp.step {Ls:List (List Nat)} {L':List Nat} {σ':Aa} (h:Fp σ Ls) (x:Nat) (hx:x<Ls.length) (hm:Mv Ls[x] L' σ σ') (hl:∀ q ∈ L',q<σ'.length):
  Fp σ' (Ls.set x L')∧(∀ y (hy:y<Ls.length),y≠x → ∀ q ∈ Ls[y],σ'[q]?=σ[q]?)∧Mv Ls.flatten (Ls.set x L').flatten σ σ':=by
 have key:∀ y (hy:y<Ls.length),y≠x→(∀ q ∈ Ls[y],σ'[q]?=σ[q]?)∧Dj L' Ls[y]:=by
  intro y hy hne
  obtain ⟨h1,h2,_⟩:=hm.GI (X:=Ls[y]) (fun q hq=>h.lt _ (List.getElem_mem hy) q hq) (fun q hq hm'=>Aer (fun _ _=>Dj.symm) h.dj hy hx (Ne.symm hne) q hq hm')
  exact ⟨h1,fun q hq hm'=>h2 q hm' hq⟩
 refine ⟨⟨Aes (fun _ _=>Dj.symm) Ls x L' h.dj fun y hy hne=>(key y hy hne).2,fun L hL q hq=>?_⟩,fun y hy hne=>(key y hy hne).1,hm.wide (fun q hq=>List.mem_flatten.2 ⟨_,List.getElem_mem hx,hq⟩) fun q hq=>?_⟩
 ·rcases List.mem_or_eq_of_mem_set hL with hL | rfl
  ·exact Nat.lt_of_lt_of_le (h.lt L hL q hq) hm.len
  ·exact hl q hq
 ·obtain ⟨K,hK,hqK⟩:=List.mem_flatten.1 hq
  rcases List.mem_or_eq_of_mem_set hK with hK | hK
  ·exact .inl (List.mem_flatten.2 ⟨K,hK,hqK⟩)
  ·exact .inr (.inl (hK ▸ hqK))
theorem Fp.app {Ls:List (List Nat)} (h:Fp σ Ls) (τ:Aa):Fp (σ++τ) Ls:=⟨h.dj,fun L hL q hq=>by have:=h.lt L hL q hq; rw[List.length_append]; omega⟩
theorem Fp.cons {Ls:List (List Nat)} {L:List Nat} {σ':Aa} (h:Fp σ Ls) (hl:∀ q ∈ L,σ.length≤q∧q<σ'.length) (hs:σ.length≤σ'.length):Fp σ' (L::Ls):=
 ⟨List.pairwise_cons.2 ⟨fun K hK q hq hm=>by have:=h.lt K hK q hm; have:=(hl q hq).1; omega,h.dj⟩,fun K hK q hq=>by
  rcases List.mem_cons.1 hK with rfl | hK
  ·exact (hl q hq).2
  ·exact Nat.lt_of_lt_of_le (h.lt K hK q hq) hs⟩
theorem Fp.nil (σ:Aa):Fp σ []:=⟨List.Pairwise.nil,fun L hL=>by cases hL⟩
theorem Fp.ne {Ls:List (List Nat)} (h:Fp σ Ls) {x y:Nat} (hx:x<Ls.length) (hy:y<Ls.length) (hne:y≠x):Dj Ls[x] Ls[y]:=Aer (fun _ _=>Dj.symm) h.dj hx hy hne
theorem Fp.sub {Ls Ks:List (List Nat)} (h:Fp σ Ls) (f:List Nat) (hf:f.Nodup) (hlt:∀ x ∈ f,x<Ls.length) (hk:Ks=f.map fun x=>Ls.getD x []):Fp σ Ks:=by
 subst hk
 have hg:∀ x (hx:x<Ls.length),Ls.getD x []=Ls[x]:=fun x hx=>by rw[List.getD_eq_getElem?_getD,List.getElem?_eq_getElem hx]; rfl
 refine ⟨List.pairwise_map.2 (hf.imp_of_mem fun {a b} ha hb hne=>?_),fun L hL q hq=>?_⟩
 ·rw[hg a (hlt a ha),hg b (hlt b hb)]
  exact h.ne _ _ (Ne.symm hne)
 ·obtain ⟨x,hx,rfl⟩:=List.mem_map.1 hL
  rw[hg x (hlt x hx)] at hq
  exact h.lt _ (List.getElem_mem (hlt x hx)) q hq
end Go.Proofs.YtjbledomkmdkmaaGreat
end
section
namespace Go.Proofs.YtjbledomkmdkmaaGreat
open Go Go.AX
noncomputable local instance qGB:A9:=Aw
local instance nGB:Kn:=⟨true⟩
structure K4 where
 mu:Nat
 sl:List Int
 gl:List Int
 qu:List Int
def K4.all (r:K4):List Int:=r.sl++r.gl++r.qu
structure K4.ok (r:K4):Prop where
 m1:1≤r.mu
 m4:r.mu≤4
 sl:r.sl.length=16*r.mu
 gl:r.gl.length=16
 qu:r.qu.length≤64
 inn:∀ v ∈ r.all,AU v∧0≤v
def Wo (out:List Int) (a:Int):List Int:=if a=0∨a ∈ out then out else out++[a]
def HF (r:K4):List Int:=r.all.foldl Wo []
structure TC where
 look:Bool
 born:Int
 ph:Int
 ws:List (BitVec 64)
 list:List Int
 left:List Int
 freed:Int
variable (m:HM) (r:K4) (s:TC)
def tz (a:Int):Nat:=Ec 2 s.ws (a.toNat/2)
def gG (s:TC) (a:Int) (c:Nat):TC:={ s with ws:=GR 2 s.ws (a.toNat/2) c }
def Rf (s:TC) (a:Int):TC:=if Ea m a=true∧tz s a=0 then { gG s a 1 with list:=s.list++[a] } else s
def JW (s:TC) (l:List Int):TC:=l.foldl (Rf m) s
def Uy (a:Int):Bool:=Ea m a && decide (tz s a≠0)
def DI (a x:Int):Int:=(Y2 m a x false).1
def Wk (k:Int) (x:Int):Bool:=(decide (x=0) && (decide (k=1) || decide (k=2))) || (decide (x=1) && decide (k=2))
def cP (a:Int):List Int:=(List.range (Au m a).1.toNat).map fun (x:Nat)=>DI m a ((x:Nat):Int)
def Rm (a:Int):List Int:=((List.range (Au m a).1.toNat).filter fun (x:Nat)=>decide (DI m a (x:Int)≠0) && !Wk (Au m a).2.2 (x:Int)).map fun (x:Nat)=>DI m a (x:Int)
def iG (l:List Int):List Int:=(l.filter fun a=>Uy m s a && decide ((Au m a).2.2=2) && Uy m s (DI m a 0)).map fun a=>DI m a 1
def Hz:List Int:=EU (FB m)
def Ads:TC:=JW m s (iG m s (Hz m))
def gm (a k:Int):Nat→Nat→HM→HM
 | 0,_,m=>m
 | n+1,x,m=>gm a k n (x+1) (if DI m a (x:Int)≠0∧Wk k (x:Int)=true then (EK m a (x:Int) 0).2 else m)
def Adq (a:Int):HM:=
 if (Au m a).2.2≠1∧(Au m a).2.2≠2 then m
 else if DI m a 0≠0∧Uy m s (DI m a 0)=true then m
 else gm a (Au m a).2.2 (Au m a).1.toNat 0 m
def iC (l:List Int):HM:=l.foldl (fun m a=>if Uy m s a then Adq m s a else m) m
def tr:List Int:=((List.range m.bls.length).filter fun (b:Nat)=>decide (CE m (b:Int)=1∨CE m (b:Int)=2)).map fun (b:Nat)=>(b:Int)
def zj:HM × TC:=
 let s1:=if s.look then JW m s (HF r) else s
 let s2:=Ads m s1
 if s2.list≠[] then (m,s2)
 else
  let m':=iC m s2 (Hz m)
  (m',{ s2 with left:=s2.left++tr m',ph:=2 })
def VK (ws:List (BitVec 64)):List Int→HM × Int→HM × Int
 | [],q=>q
 | a::l,q=>VK ws l (if Ec 2 ws (a.toNat/2)=0 then ((Kv q.1 a).2,Cf (q.2+1)) else q)
def lL (ws:List (BitVec 64)):Nat→Nat→List (BitVec 64)
 | 0,_=>ws
 | n+1,x=>lL (GR 2 ws x 0) n (x+1)
def vA (n:Nat) (s:TC):TC:=if s.left=[] then { s with ws:=lL s.ws n 0,ph:=0 } else s
def yp:HM × TC:=
 match s.left with
 | []=>(m,vA (32*m.bls.length) s)
 | b::l=>
   let q:=VK s.ws (EU (Mz m b)) (m,s.freed)
   ((DJ q.1 b).2,vA (32*m.bls.length) { s with left:=l,freed:=q.2 })
def Ag1:TC:=
 match s.list with
 | []=>s
 | a::l=>
   if Ea m a then gG (JW m { s with list:=l } (Rm m a)) a 2 else { s with list:=l }
def jA:HM × TC:=
 if s.ph=2 then yp m s
 else if s.list≠[] then (m,Ag1 m s)
 else zj m r s
def EY (r:K4):Nat→HM × TC→Nat × HM × TC
 | 0,q=>(0,q)
 | n+1,q=>if q.2.ph=0 then (0,q) else
   let z:=EY r n (jA q.1 r q.2)
   (z.1+1,z.2)
theorem sH (r:K4):∀ (a c:Nat) (q:HM × TC),EY r (a+c) q=((EY r a q).1+(EY r c (EY r a q).2).1,(EY r c (EY r a q).2).2)
 | 0,c,q=>by simp[EY]
 | a+1,c,q=>by
   rw[show a+1+c=(a+c)+1 from by omega,EY,EY]
   by_cases h:q.2.ph=0
   ·rw[if_pos h,if_pos h]
    cases c with
    | zero=>simp[EY]
    | succ c=>simp[EY,h]
   ·rw[if_neg h,if_neg h,sH r a c]
    simp only[Nat.add_right_comm]
def ui:TC:=JW m { s with freed:=0,ph:=1 } (HF r)
def dk:Bool:=(HF r).all (fun a=>decide (a=0) || Ea m a) && (Hz m).all fun a=>(cP m a).all fun v=>decide (v=0) || Ea m v
def ja (n:Nat) (look:Bool) (born:Int):TC:=⟨look,born,0,List.replicate ((32*n*2+63)/64) 0#64,[],[],0⟩
end Go.Proofs.YtjbledomkmdkmaaGreat
end
section
namespace Go.Proofs.YtjbledomkmdkmaaGreat
open Go Go.AX
noncomputable local instance qGG:A9:=Aw
local instance nGG:Kn:=⟨true⟩
variable {m:HM} {r:K4}
def T8 (m:HM):Prop:=∀ j,Start m j → ∀ x:Nat,(x:Int)<A5 m j→m.wds.getD (2*j+2+x) 0=0
def Zc (m:HM):Prop:=∀ j,Start m j → ∀ x:Nat,(x:Int)<A5 m j→m.wds.getD (2*j+2+x) 0=0∨Ea m (m.wds.getD (2*j+2+x) 0)=true
theorem T8.s (h:T8 m):Zc m:=fun j hs x hx=>.inl (h j hs x hx)
def ZX (m:HM) (r:K4):Prop:=∀ v ∈ r.all,v=0∨Ea m v=true
theorem kO {m':HM} (hl:m'.bls.length=m.bls.length) (hs:m'.stw=m.stw) (j:Nat):Start m' j↔Start m j:=by unfold Start; rw[hl,hs]
theorem vx {m':HM} (hl:m'.bls.length=m.bls.length) (hs:m'.stw=m.stw) (a:Int):Ea m' a=Ea m a:=by
 unfold Ea; simp only[kO hl hs]
theorem T8.AG {m':HM} (h:T8 m) (hl:m'.bls.length=m.bls.length) (hs:m'.stw=m.stw) (hw:m'.wds=m.wds):T8 m':=by
 intro j hj x hx
 rw[hw]
 exact h j ((kO hl hs j).1 hj) x (by unfold A5 at hx ⊢; rw[hw] at hx; exact hx)
theorem Zc.AG {m':HM} (h:Zc m) (hl:m'.bls.length=m.bls.length) (hs:m'.stw=m.stw) (hw:m'.wds=m.wds):Zc m':=by
 intro j hj x hx
 rw[hw,vx hl hs]
 exact h j ((kO hl hs j).1 hj) x (by unfold A5 at hx ⊢; rw[hw] at hx; exact hx)
theorem ZX.AG {m':HM} (h:ZX m r) (hl:m'.bls.length=m.bls.length) (hs:m'.stw=m.stw):ZX m' r:=fun v hv=>by rw[vx hl hs]; exact h v hv
theorem gk (m:HM) (b c x y x' y':Int):(De m b c x y x' y').2.wds=m.wds∧(De m b c x y x' y').2.stw=m.stw∧(De m b c x y x' y').2.bls.length=m.bls.length∧(De m b c x y x' y').2.births=m.births:=by
 unfold De
 split
 ·split
  ·exact ⟨rfl,rfl,by rw[List.length_set,KV],rfl⟩
  ·exact ⟨rfl,rfl,rfl,rfl⟩
 ·exact ⟨rfl,rfl,rfl,rfl⟩
theorem T8.rD (h:T8 m) (b c x y x' y':Int):T8 (De m b c x y x' y').2:=by
 obtain ⟨e1,e2,e3,_⟩:=gk m b c x y x' y'
 exact h.AG e3 e2 e1
theorem T8.new (n:Nat):T8 (My n):=fun j hs=>absurd hs (rY n j)
theorem T8.place (h:T8 m) (hI:Inv m) (hI2:Inv2 m) (hS:Sh m) (a r d c:Int):T8 (Hc m a r d c).2.2:=by
 unfold Hc
 cases hv:valid r d c with
 | false=>exact h
 | true=>
   simp only[if_true]
   by_cases hf:QB m a (XF (num r d c)) (-1)=0
   rotate_left
   ·rw[if_neg hf]; exact h
   rw[if_pos hf]
   have hw2:2≤XF (num r d c):=by
    have hv':=hv
    rw[OG hv]
    simp[valid] at hv'
    omega
   obtain ⟨j,rfl,hj,hfit,hap⟩:=hI.fits hS.wl (pY _) hw2 hf
   rw[show ((2*j:Nat):Int).toNat/2=j from by omega]
   have hap':∀ o,Start m o→2*o+sz m o≤2*j∨2*j+XF (num r d c)≤2*o:=fun o ho=>hap o ho (by omega)
   obtain ⟨p1,p2,p3,_⟩:=PM hv
   have hsz:=OG hv
   have hv':=hv
   simp[valid] at hv'
   intro o ho x hx
   rcases (Tz hS.sl hj).1 ho with rfl | ho'
   ·have hr:A5 (DH m o (num r d c)) o=r:=by
     unfold A5; rw[KC hS hj,if_pos rfl,p1]
    rw[hr] at hx
    rw[KC hS hj,if_neg (by omega),if_neg (by omega)]
    refine hI2.zero _ fun y hy q1 q2=>?_
    have:=hap' y hy
    have:=hI.use hy
    omega
   ·have hu:=hI.use ho'
    have hap2:=hap' o ho'
    have hne:o≠j:=by
     rintro rfl
     omega
    have hr:A5 (DH m j (num r d c)) o=A5 m o:=by
     unfold A5; rw[KC hS hj,if_neg (by omega),if_neg (by omega)]
    rw[hr] at hx
    obtain ⟨_,r1,r2,r3,r4,_⟩:=YY hI ho'
    rw[KC hS hj,if_neg (by omega),if_neg (by omega)]
    exact h o ho' x hx
theorem Aa4 (hI:Inv m) (hS:Sh m) {j y:Nat} (hs:Start m j) (hy:Start m y) (hne:y≠j):A5 (KB m j) y=A5 m y∧Fm (KB m j) y=Fm m y ∧ ∀ x:Nat,(x:Int)<A5 m y→(KB m j).wds.getD (2*y+2+x) 0=m.wds.getD (2*y+2+x) 0:=by
 have hz:=hI.size hy
 have e:(KB m j).wds.getD (2*y+1) 0=m.wds.getD (2*y+1) 0:=VJ hI hs hy hne (by omega) (by omega)
 refine ⟨by unfold A5; rw[e],by unfold Fm; rw[e],fun x hx=>VJ hI hs hy hne (by omega) (by omega)⟩
theorem T8.kill (h:T8 m) (hI:Inv m) (hS:Sh m) (a:Int):T8 (Kv m a).2:=by
 unfold Kv
 cases hh:Ea m a with
 | false=>exact h
 | true=>
   obtain ⟨j,rfl,hs⟩:=Ek hh
   rw[if_pos rfl,show ((2*j:Nat):Int).toNat/2=j from by omega]
   show T8 (KB m j)
   intro y hy x hx
   obtain ⟨hne,hy'⟩:=(Sr hS.sl hs.1).1 hy
   obtain ⟨e1,_,e2⟩:=Aa4 hI hS hs hy' hne
   rw[e1] at hx
   show (KB m j).wds.getD _ 0=0
   rw[e2 x hx]
   exact h y hy' x hx
theorem Zc.setRef (h:Zc m) (hI:Inv m) (a x v:Int):Zc (EK m a x v).2:=by
 unfold EK
 by_cases hf:(DG m a x false).2=0
 rotate_left
 ·rw[if_neg hf]; exact h
 rw[if_pos hf]
 by_cases hv:v≠0∧Ea m v=false
 ·rw[if_pos hv]; exact h
 rw[if_neg hv]
 have hv':v=0∨Ea m v=true:=by
  by_cases h0:v=0
  ·exact .inl h0
  ·refine .inr ?_
   cases hh:Ea m v with
   | true=>rfl
   | false=>exact absurd ⟨h0,hh⟩ hv
 obtain ⟨j,t,hs,rfl,hw,hu,ht⟩:=oH (w:=(DG m a x false).1) hI (Prod.ext rfl hf)
 rw[hw,Int.toNat_natCast]
 have hus:=hI.use hs
 have key:=qj hI hs (t:=t) (by omega) v
 intro y hy z hz
 have hy':Start m y:=hy
 have e1:A5 (MH m (2*j+2+t) v) y=A5 m y:=by unfold A5; rw[key y hy' 1 (by decide)]
 rw[e1] at hz
 have hh:∀ q,Ea (MH m (2*j+2+t) v) q=Ea m q:=fun q=>rfl
 rw[hh]
 show (m.wds.set _ _).getD _ 0=0∨Ea m ((m.wds.set _ _).getD _ 0)=true
 rw[CC]
 split
 ·exact hv'
 ·exact h y hy' z hz
theorem XB (m:HM) (a x v:Int):(EK m a x v).2.bls=m.bls∧(EK m a x v).2.stw=m.stw∧(EK m a x v).2.births=m.births∧(EK m a x v).2.fw=m.fw∧(EK m a x v).2.pnw=m.pnw:=by
 unfold EK
 split
 ·split <;> exact ⟨rfl,rfl,rfl,rfl,rfl⟩
 ·exact ⟨rfl,rfl,rfl,rfl,rfl⟩
theorem kB (m:HM) (a:Int) (v:Nat):(QD m a v).2.bls=m.bls∧(QD m a v).2.stw=m.stw∧(QD m a v).2.wds=m.wds∧(QD m a v).2.births=m.births∧(QD m a v).2.fw=m.fw:=by
 unfold QD
 split <;> exact ⟨rfl,rfl,rfl,rfl,rfl⟩
theorem Zc.lU (h:Zc m) (a:Int) (v:Nat):Zc (QD m a v).2:=by
 obtain ⟨e1,e2,e3,_⟩:=kB m a v
 exact h.AG (by rw[e1]) e2 e3
theorem Ag9 (hI:Inv m) {j x:Nat} (hs:Start m j) (hx:(x:Int)<A5 m j):DI m ((2*j:Nat):Int) (x:Int)=m.wds.getD (2*j+2+x) 0:=by
 unfold DI Y2
 rw[oG hI hs hx,if_pos rfl,Int.toNat_natCast]
theorem sG {j:Nat} (hs:Start m j):Au m ((2*j:Nat):Int)=(A5 m j,BN m j,Fm m j):=by
 unfold Au
 rw[if_pos (Z5 hs),show ((2*j:Nat):Int).toNat/2=j from by omega]
theorem ku (v:Int):∀ (l out:List Int),v ∈ l.foldl Wo out→v ∈ out∨v ∈ l
 | [],out,h=>.inl h
 | a::l,out,h=>by
   rcases ku v l (Wo out a) h with h | h
   ·unfold Wo at h
    split at h
    ·exact .inl h
    ·rcases List.mem_append.1 h with h | h
     ·exact .inl h
     ·rw[List.mem_singleton.1 h]; exact .inr List.mem_cons_self
   ·exact .inr (List.mem_cons_of_mem _ h)
theorem Afb (hI:Inv m) (h:Zc m) (hr:ZX m r):dk m r=true:=by
 unfold dk
 rw[Bool.and_eq_true]
 constructor
 ·rw[List.all_eq_true]
  intro v hv
  rcases ku v r.all [] hv with h | h
  ·cases h
  ·rcases hr v h with h0 | h0 <;> simp[h0]
 ·rw[List.all_eq_true]
  intro a ha
  unfold Hz EU at ha
  obtain ⟨j,hj,rfl⟩:=List.mem_map.1 ha
  have hs:=Ew.1 hj
  rw[List.all_eq_true]
  intro v hv
  unfold cP at hv
  rw[sG hs] at hv
  obtain ⟨x,hx,rfl⟩:=List.mem_map.1 hv
  have hx:=List.mem_range.1 hx
  obtain ⟨_,r1,_⟩:=YY hI hs
  dsimp only at hx
  rw[Ag9 hI hs (by omega)]
  rcases h j hs x (by omega) with h0 | h0
  ·rw[h0]; rfl
  ·rw[h0,Bool.or_true]
def my (m:HM) (n:Nat):Int:=if FB m=[] then 0 else (EU (FB m)).getD (n % (FB m).length) 0
theorem Adj (m:HM) (n:Nat):my m n=0∨Ea m (my m n)=true:=by
 unfold my
 split
 ·exact .inl rfl
 ·rename_i h
  have hl:n % (FB m).length<(FB m).length:=Nat.mod_lt _ (List.length_pos_iff.2 h)
  rw[Zi _ hl]
  exact .inr (Z5 (Ew.1 (List.getElem_mem hl)))
end Go.Proofs.YtjbledomkmdkmaaGreat
end
section
namespace Go.Proofs.YtjbledomkmdkmaaGreat
open Go Go.AX
noncomputable local instance qGC:A9:=Aw
local instance nGC:Kn:=⟨true⟩
variable {σ:Aa}
def Holds (σ:Aa) (p:Option Addr) (l:List Int):Prop:=Ds σ 1 p l.length=some (Bm l)∧((∃ a,p=some a)∨l=[])
theorem xz {σ:Aa} {p:Option Addr} {n:Nat} {row:List Value} (τ:Aa) (h:Ds σ 1 p n=some row):Ds (σ++τ) 1 p n=some row:=by
 cases p with
 | none=>exact h
 | some a=>
   simp only[Ds,ZA] at h ⊢
   cases e:σ[a.block]? with
   | none=>rw[e] at h; cases h
   | some o=>rw[List.getElem?_append_left (Al e),e]; rw[e] at h; exact h
theorem iD (k:Nat) (p:Option Addr) (c:Nat) (l:List Int) (hl:l.length≤100000) (h:Holds σ p l):
  ∃ s τ,Be (k+1) (p,l.length,c) σ=some (.slice s.1 s.2.1 s.2.2,σ++τ)∧B6 (σ++τ) s l ∧ ∀ b ∈ hs s,σ.length≤b:=by
 rw[R1,KQ]
 simp only[sw,Ad,Af,Ae]
 cases p with
 | none=>
   have hl0:l=[]:=by
    rcases h.2 with ⟨a,ha⟩ | h
    ·cases ha
    ·exact h
   subst hl0
   refine ⟨(none,0,0),[], ?_,.inl (EM.nil _ _ _),fun b hb=>by simp[hs] at hb⟩
   rw[show ([]:List Int).length=0 from rfl]
   rw[show ∀ n c,Od P HJ (.slice none n c) (.slice none 0 0)=some true from fun n c=>by kernel_rfl]
   simp only[Option.bind_some,cond_true,List.append_nil]
 | some a=>
   have hf:=xz [A6.cells [] As true] h.1
   obtain ⟨s',τ,e,h1,h2⟩:=lG sz3 by3 zz3 rfl rfl (by decide) (by decide) (by decide) σ (some a) l.length c hl (Bm l) (by rw[EI,Nat.mul_one]) hf
   simp only[eqW,Option.bind_some,cond_false,AM,e]
   refine ⟨s',[A6.cells [] As true]++τ,by rw[← List.append_assoc], ?_, ?_⟩
   ·by_cases h0:l.length=0
    ·have hl0:l=[]:=List.length_eq_zero_iff.1 h0
     refine .inr ⟨hl0,σ.length,[],As,true,h2 h0, ?_⟩
     rw[List.getElem?_append_right (Nat.le_refl _)]; simp
    ·obtain ⟨q1,q2⟩:=h1 (by omega)
     refine .inl (.inr ⟨σ.length+1,q1,Nat.zero_le _,by rw[EI,Nat.mul_one], ?_⟩)
     rw[← List.append_assoc]; exact q2
   ·intro b hb
    by_cases h0:l.length=0
    ·rw[h2 h0] at hb; simp[hs] at hb; omega
    ·rw[(h1 (by omega)).1] at hb; simp[hs] at hb; omega
theorem B6.holds {s:Ce} {l:List Int} (h:B6 σ s l):Holds σ s.1 l:=by
 refine ⟨h.first, ?_⟩
 rcases h with (⟨h,_,rfl⟩ | ⟨b,rfl,_⟩) | ⟨rfl,b,cs,T,w,rfl,hc⟩
 ·exact .inr (List.length_eq_zero_iff.1 h)
 ·exact .inl ⟨_,rfl⟩
 ·exact .inr rfl
theorem B6.tail {s:Ce} {a:Int} {l:List Int} (h:B6 σ s (a::l)):∃ p c,HK As 1 (s.1,(a::l).length,(a::l).length) (some (.int .i64 (1:Int))) none none σ=some (p,l.length,c)∧Holds σ p l:=by
 rcases h with h | ⟨h,_⟩
 ·obtain ⟨p,c,e1,e2⟩:=pR h 1 (a::l).length (by simp) (Nat.le_refl _) (some (.int .i64 ((1:Nat):Int))) none (.inl rfl) (.inr ⟨rfl,rfl⟩)
  have hn:(a::l).length-1=l.length:=by simp
  rw[hn] at e1 e2
  refine ⟨p,c,e1, ?_, ?_⟩
  ·rw[e2]
   simp only[Bm,List.map_cons,Nat.mul_one,Nat.one_mul,List.drop_succ_cons,List.drop_zero]
   rw[List.take_of_length_le (by simp)]
  ·cases p with
   | some a=>exact .inl ⟨_,rfl⟩
   | none=>
     right
     cases l with
     | nil=>rfl
     | cons b l=>
       exfalso
       simp only[Ds,List.length_cons] at e2
       rw[if_neg (by omega)] at e2
       cases e2
 ·cases h
theorem kV (k:Nat) {s:Ce} {l:List Int} (h:B6 σ s l) (hl:l.length≤1000000) (v:Int):∀ (n x f:Nat),x+n=l.length→n<f →
  ∃ o,Di k f s.1 l.length l.length v ((l.length:Nat):Int) (x:Int) σ=some o∧(v ∈ l.drop x → ∃ y:Nat,o=(.ret,[.int .i64 (y:Int)],σ))∧(v ∉ l.drop x→o=(.exit 0,[],σ))
 | n,x,0,hx,hf=>by omega
 | 0,x,f+1,hx,hf=>by
   rw[GQ,Fa]
   simp only[sw,Ad,Af,Ae,decide_eq_false (show ¬ (x:Int)<((l.length:Nat):Int) by omega),cond_false]
   refine ⟨_,rfl,fun hm=>?_,fun _=>rfl⟩
   rw[List.drop_eq_nil_of_le (by omega)] at hm
   cases hm
 | n+1,x,f+1,hx,hf=>by
   obtain ⟨b,e,l1,_⟩:=h.ld (x:=x) (by omega)
   have qx:(0≤(x:Int)∧(x:Int)<((l.length:Nat):Int))=True:=eq_true (by omega)
   have w1:Cf ((x:Int)+1)=((x+1:Nat):Int):=Ak (by unfold AU; omega)
   obtain ⟨o,e2,h1,h2⟩:=kV k h hl v n (x+1) f (by omega) (by omega)
   have hd:l.drop x=l.getD x 0::l.drop (x+1):=by
    rw[List.drop_eq_getElem_cons (by omega),List.getD_eq_getElem?_getD,List.getElem?_eq_getElem (by omega)]; rfl
   rw[GQ,Fa]
   simp only[sw,Ad,Af,Ae,decide_eq_true (show (x:Int)<((l.length:Nat):Int) by omega),cond_true,qx,if_true,e,Option.bind_some,Int.toNat_natCast,Nat.mul_one,Nat.zero_add,l1,w1]
   by_cases q:v=l.getD x 0
   ·rw[show (v == l.getD x 0)=true from beq_iff_eq.2 q]
    simp only[cond_true]
    exact ⟨_,rfl,fun _=>⟨x,rfl⟩,fun hm=>absurd (by rw[hd,q]; exact List.mem_cons_self) hm⟩
   ·rw[show (v == l.getD x 0)=false from beq_eq_false_iff_ne.2 q]
    rw[e] at e2
    simp only[cond_false,e2]
    refine ⟨o,rfl,fun hm=>h1 ?_,fun hm=>h2 fun hn=>hm (by rw[hd]; exact List.mem_cons_of_mem _ hn)⟩
    rw[hd] at hm
    rcases List.mem_cons.1 hm with hm | hm
    ·exact absurd hm q
    ·exact hm
theorem kU (k:Nat) {s:Ce} {l:List Int} (h:B6 σ s l) (hl:l.length≤1000000) (hk:l.length<k) (v:Int):Bk (k+2) (s.1,s.2.1,s.2.2) v σ=some (.bool (decide (v ∈ l)),σ):=by
 obtain ⟨o,e,h1,h2⟩:=kV (k) h hl v l.length 0 k (by omega) hk
 rw[show ((0:Nat):Int)=0 from rfl] at e
 rw[JF,Gr,LF,Ih]
 have hf:=h.form
 have e1:s.2.1=l.length:=by rw[hf]
 have e2:s.2.2=l.length:=by rw[hf]
 simp only[sw,Ad,Af,Ae,e1,e2,e,Option.bind_some]
 rw[List.drop_zero] at h1 h2
 by_cases hm:v ∈ l
 ·obtain ⟨y,rfl⟩:=h1 hm
  rw[decide_eq_true hm]
  simp only[reduceCtorEq,if_false,if_true,FR,Option.bind_some,Aj]
  rw[decide_eq_true (show (y:Int)≥0 by omega)]
 ·rw[h2 hm,decide_eq_false hm]
  simp only[if_true,Option.bind_some,Aj]
  rfl
theorem ue (k:Nat) (hk:10≤k) {e:Nat} (h0:0<e) (h1:e≤4096) (σ:Aa):∃ τ tb wb,JE (k+4) (e:Int) 2 σ=some (.tuple #[.pointer (some ⟨tb,0,none⟩),.int .i64 0],σ++τ) ∧
  DU (σ++τ) tb wb e 2 (List.replicate ((e*2+63)/64) 0#64)∧σ.length≤tb∧σ.length≤wb∧tb≠wb:=by
 obtain ⟨μ,hμ⟩:∃ μ,σ++[A6.cells [Value.int .i64 1,.int .i64 2,.int .i64 4,.int .i64 8] As true]=μ:=⟨_,rfl⟩
 have hl:μ.length=σ.length+1:=by rw[← hμ]; simp
 have hA:B6 μ (some ⟨σ.length,0,none⟩,4,4) [1,2,4,8]:=.inl (.inr ⟨σ.length,rfl,by decide,rfl,by rw[← hμ]; simp[Bm]⟩)
 have hC:Bk (k+3) (some ⟨σ.length,0,none⟩,4,4) 2 μ=some (.bool true,μ):=kU (k+1) hA (by decide) (by simp; omega) 2
 rw[Xy,Vj]
 simp only[sw,Ad,Af,Ae]
 simp only[show decide ((e:Int)<1)=false from decide_eq_false (by omega),cond_false,show decide ((e:Int)>4096)=false from decide_eq_false (by omega),Option.bind_some,AM,hμ,hC,Ar,Bool.not_true]
 have e1:Cf ((e:Int)*2)=((e*2:Nat):Int):=by rw[Ak (by unfold AU; omega)]; omega
 have e2:Cf (((e*2:Nat):Int)+64)=((e*2+64:Nat):Int):=Ak (by unfold AU; omega)
 have e3:Cf (((e*2+64:Nat):Int)-1)=((e*2+63:Nat):Int):=by rw[Ak (by unfold AU; omega)]; omega
 have e4:((e*2+63:Nat):Int).tdiv 64=(((e*2+63)/64:Nat):Int):=rfl
 have e5:Cf (((e*2+63)/64:Nat):Int)=(((e*2+63)/64:Nat):Int):=Ak (by unfold AU; omega)
 simp only[e1,e2,e3,e4,e5,show ((64:Int)=0)=False from by simp,if_false]
 rw[if_pos (by omega)]
 simp only[Int.toNat_natCast,zs]
 refine ⟨[A6.cells [Value.int .i64 1,.int .i64 2,.int .i64 4,.int .i64 8] As true,.cells (rowOf (List.replicate ((e*2+63)/64) 0#64)) Bt true,.cells [.int .i64 (e:Int),.int .i64 2,.slice (some ⟨σ.length+1,0,none⟩) ((e*2+63)/64) ((e*2+63)/64)] SE true],σ.length+2,σ.length+1, ?_, ?_,by omega,by omega,by omega⟩
 ·rw[← hμ]; simp
 ·refine ⟨?_, ?_,by simp,h0,h1,.inr (.inl rfl)⟩
  ·simp
  ·simp
theorem wP (k:Nat) {tb wb e w:Nat} {ws:List (BitVec 64)} (h:DU σ tb wb e w ws):CZ (k+2) (some ⟨tb,0,none⟩) σ=some (.int .i64 (e:Int),σ):=by
 rw[PH,Jp]
 simp only[sw,Ad,Af,Ae,iZ k h,Option.bind_some,Ar,Bool.not_true,cond_false,Nat.zero_add,Nat.add_zero,h.ldE]
theorem nh (k:Nat) {tb wb e:Nat} (hne:tb≠wb):∀ (n x f:Nat) (σ:Aa) (ws:List (BitVec 64)),DU σ tb wb e 2 ws→x+n=e→n<f →
  ∃ σ',D2 (k+3) f (some ⟨tb,0,none⟩) (0:Int) (0:Int) (e:Int) (x:Int) σ=some (.exit 0,[],σ')∧DU σ' tb wb e 2 (lL ws n x)∧Mv [wb] [wb] σ σ'
 | n,x,0,σ,ws,h,hx,hf=>by omega
 | 0,x,f+1,σ,ws,h,hx,hf=>by
   rw[Kp,GV]
   simp only[sw,Ad,Af,Ae,decide_eq_false (show ¬ (x:Int)<(e:Int) by omega),cond_false]
   exact ⟨σ,rfl,h,Mv.refl _ _⟩
 | n+1,x,f+1,σ,ws,h,hx,hf=>by
   have ht:=h.top
   have w0:Cf (0+(x:Int))=(x:Int):=by rw[Ak (by unfold AU; omega)]; omega
   have w1:Cf ((x:Int)+1)=((x+1:Nat):Int):=Ak (by unfold AU; omega)
   have hp:=Aep (k+1) h (j:=x) (v:=0) (by omega)
   rw[show ((0:Nat):Int)=0 from rfl] at hp
   obtain ⟨σ',e',h',m'⟩:=nh k hne n (x+1) f _ _ (h.put hne x 0) (by omega) (by omega)
   rw[Kp,GV]
   simp only[sw,Ad,Af,Ae,decide_eq_true (show (x:Int)<(e:Int) by omega),cond_true,w0,w1,hp,Option.bind_some,M8,e']
   exact ⟨σ',rfl,h',(Mv.set σ _ (List.mem_singleton.2 rfl)).trans m'⟩
theorem Afo (k:Nat) (hk:5000≤k) {tb wb e:Nat} (hne:tb≠wb) {ws:List (BitVec 64)} (h:DU σ tb wb e 2 ws):
  ∃ σ',DZ (k+9) (some ⟨tb,0,none⟩) (0:Int) (e:Int) (0:Int) σ=some (.int .i64 0,σ')∧DU σ' tb wb e 2 (lL ws e 0)∧Mv [tb,wb] [tb,wb] σ σ':=by
 have hp:=h.pos
 have ht:=h.top
 have h1:=h.app [.cells [.int .i64 (0:Int)] As true]
 obtain ⟨τ,hc⟩:=ve k h1 (0:Int) (0:Int) σ.length (by simp[Dg,Gi,Ml]) (by simp)
 have h2:=h1.app τ
 obtain ⟨σ',e',h',m'⟩:=nh (k+5) hne e 0 (k+8) _ _ h2 (by omega) (by omega)
 rw[show ((0:Nat):Int)=0 from rfl] at e'
 have w0:Cf ((e:Int)-0)=(e:Int):=by rw[Ak (by unfold AU; omega)]; omega
 refine ⟨σ', ?_,h',(((Mv.app [wb] σ _).trans (Mv.app [wb] _ τ)).trans m').wide (fun q hq=>List.mem_cons_of_mem _ hq) fun q hq=>.inl hq⟩
 rw[SW,LX]
 simp only[sw,Ad,Af,Ae,AM]
 rw[hc,if_pos (by have:=Nat.two_pow_pos 2; omega)]
 simp only[Option.bind_some,Aj,bne_self_eq_false,cond_false,decide_eq_false (show ¬ (e:Int)<1 by omega),Nat.zero_add,Nat.add_zero,h2.ldE,w0,decide_eq_false (show ¬ (e:Int)>(e:Int) by omega),e',if_true]
end Go.Proofs.YtjbledomkmdkmaaGreat
end
