/- The document's heap: a new one, and a copy.; The program's heap, asked anything; what calls keep.; Both heaps looked at.; What a call leaves of a memo -/
import Derived.Test.YtphkfdnecpacmaaGreatP24
import Derived.Test.YtphkfdnecpacmaaGreatP22
set_option linter.unusedVariables false
set_option linter.unusedSimpArgs false
set_option linter.unusedSectionVars false
section
namespace Go.Proofs.YtphkfdnecpacmaaGreat
open Go Go.AX
noncomputable local instance qSC:AA:=Aw
local instance nSC:Kn:=⟨true⟩
variable {σ:Aa} {m:HM} {t:RM} {i:RI}
theorem rN (n j:Nat):¬ Start (Mr n) j:=by
 rintro ⟨_,h⟩
 have:Eb 1 (Mr n).stw j=0:=ZJ _ _ _
 omega
theorem YS.new (n:Nat):YS (Mr n) ⟨List.replicate n (0,0),[],[],0⟩:=by
 refine ⟨rfl, ?_,rfl,fun a=>rfl,rfl,trivial,trivial⟩
 have:FA (Mr n)=[]:=by
  cases h:FA (Mr n) with
  | nil=>rfl
  | cons j l=>exact absurd (Eu.1 (by rw[h]; exact List.mem_cons_self)) (rN n j)
 show []=GF (Mr n)
 unfold GF
 rw[this]; rfl
theorem OB.new (n:Nat):OB (Mr n):=fun j _ _=>ZJ _ _ _
theorem FZ.new (n:Nat):FZ (Mr n):=by
 intro c _
 show ((List.replicate n ((0:Int),(0:Int))).getD c (0,0)).2=0
 rw[List.getD_eq_getElem?_getD,List.getElem?_replicate]
 split <;> rfl
theorem Agn (k:Nat) {n:Nat} (h2:2≤n) (h64:n≤64) (σ:Aa):∃ τ i,Pz (k+1) (n:Int) σ=some (.tuple #[.pointer (Cp i),.int .i64 0],σ++τ)∧Kz (σ++τ) i ⟨List.replicate n (0,0),[],[],0⟩ ∧ ∀ j ∈ i.l,σ.length≤j:=by
 rw[oq,bD]
 try simp only[sw,Ad,Af,Ae]
 simp only[show decide ((n:Int)<2)=false from decide_eq_false (by omega),cond_false,show decide ((n:Int)>64)=false from decide_eq_false (by omega),Option.bind_some,AM]
 rw[if_pos (by omega)]
 simp only[Int.toNat_natCast,yY]
 obtain ⟨A,hA⟩:∃ A,A6.cells (Dc (List.replicate n (0,0))) Am true=A:=⟨_,rfl⟩
 rw[hA]
 refine ⟨[A]++[A6.cells [.slice (some ⟨σ.length,0,none⟩) n n,.slice none 0 0,.slice none 0 0,.int .i64 0] Di true],⟨(σ++[A]).length,(some ⟨σ.length,0,none⟩,n,n),(none,0,0),(none,0,0),[]⟩,by rw[List.append_assoc], ?_, ?_⟩
 ·rw[← List.append_assoc]
  refine { hp:=by simp,bl:=.inr ⟨σ.length,by simp,Nat.zero_le _,by rw[KP]; omega,by rw[List.getElem?_append_left (by simp),← hA]; simp⟩,ob:=.inl ⟨rfl,rfl,rfl⟩,fw:=.inl (.inl ⟨rfl,rfl,rfl⟩),ol:=rfl,inn:=fun x h=>by simp at h,nd:=?_,lt:=?_ }
  ·simp[RI.l,hs]
  ·intro j hj
   simp[RI.l,hs] at hj
   simp
   omega
 ·intro j hj
  simp[RI.l,hs] at hj
  omega
theorem kU {E:TypeId} {s by_:Nat} {z:Value} (hs:IK P E=some s) (hb:bytesOf P E=some by_) (hz:FR P E=some z) (hz1:GW z=false) (hz2:z.cells.size=s) (hs0:0<s) (hb0:0<by_) (hb1:by_≤1000)
  (σ:Aa) (p:Option Addr) (n c:Nat) (hn1:n≤100000) (row:List Value) (hr:row.length=n*s) (hf:Dq (σ++[.cells [] E true]) s p n=some row):
  ∃ s' τ,BH P E (some ⟨σ.length,0,some 0⟩,0,0) (p,n,c) (σ++[.cells [] E true])=some (s',σ++[.cells [] E true]++τ)∧(0<n→s'=(some ⟨σ.length+1,0,none⟩,n,n)∧(σ++[.cells [] E true]++τ)[σ.length+1]?=some (.cells row E true))∧(n=0→s'=(some ⟨σ.length,0,some 0⟩,0,0)):=by
 by_cases h0:n=0
 ·subst h0
  refine ⟨(some ⟨σ.length,0,some 0⟩,0,0),[], ?_,fun h=>absurd h (Nat.lt_irrefl _),fun _=>rfl⟩
  unfold BH PZ
  have h1:(¬ (GW z=false∧some s=some z.cells.size∧0<z.cells.size))=False:=by
   rw[hz1,hz2]; simp[hs0]
  simp only[hs,hb,hz,hf,Option.bind_some,h1,if_false,Nat.add_zero,Nat.le_refl,if_true,Ik,Option.isSome_some,cond_true,slK,List.append_nil]
 ·have e:=wT hs hb hz hz1 hz2 hs0 hb0 hb1 σ p n c (by omega) hn1 row hf
  refine ⟨_,[.cells row E true], ?_,fun _=>⟨rfl, ?_⟩,fun h=>absurd h h0⟩
  ·rw[e]; simp
  ·rw[List.getElem?_append_right (by simp)]; simp
theorem Ff.first {s:Ci} {l:List Int} (h:Ff σ s l):Dq σ 1 s.1 l.length=some (Bm l):=by
 by_cases hl:l=[]
 ·subst hl
  cases hs:s.1 with
  | none=>rfl
  | some a=>
    obtain ⟨cs,T,w,h1,h2⟩:=h.2.2 a hs
    simp only[Dq,Z1,h1,List.length_nil,Nat.zero_mul,Nat.add_zero,h2,if_true,List.take_zero]
    rfl
 ·obtain ⟨b,c,rfl,hc⟩:=h.2.1 hl
  simp only[Dq,Z1,hc,EH,Nat.zero_add,Nat.mul_one,Nat.le_refl,if_true,List.drop_zero]
  rw[List.take_of_length_le (by rw[EH]; exact Nat.le_refl _)]
theorem EL.first {E:TypeId} {s n:Nat} {sl:Ci} {row:List Value} (h:EL E s σ sl n row):Dq σ s sl.1 n=some row:=by
 rcases h with ⟨rfl,rfl,rfl⟩ | ⟨b,rfl,_,hl,hc⟩
 ·rfl
 ·simp only[Dq,Z1,hc,hl,Nat.zero_add,Nat.le_refl,if_true,List.drop_zero]
  rw[List.take_of_length_le (Nat.le_of_eq hl)]
theorem Aai (σ:Aa) (s:Ci) (l:List Int) (hl:l.length≤100000) (h:Ff σ s l):
  ∃ s' τ,BH P As (some ⟨σ.length,0,some 0⟩,0,0) (s.1,s.2.1,s.2.2) (σ++[.cells [] As true])=some (s',σ++[.cells [] As true]++τ)∧Ff (σ++[.cells [] As true]++τ) s' l∧hs s'≠[] ∧ ∀ j ∈ hs s',j=σ.length∨j=σ.length+1∧j<(σ++[A6.cells [] As true]++τ).length:=by
 have hf:=(h.app [.cells [] As true]).first
 rw[← h.1] at hf
 obtain ⟨s',τ,e,h1,h2⟩:=kU sz3 by3 zz3 rfl rfl (by decide) (by decide) (by decide) σ s.1 s.2.1 s.2.2 (by rw[h.1]; exact hl) (Bm l) (by rw[EH,h.1,Nat.mul_one]) hf
 refine ⟨s',τ,e, ?_, ?_, ?_⟩
 ·by_cases h0:s.2.1=0
  ·rw[h2 h0]
   have hl0:l=[]:=List.length_eq_zero_iff.1 (by rw[← h.1]; exact h0)
   subst hl0
   exact ⟨rfl,fun hn=>absurd rfl hn,fun a ha=>by cases ha; exact ⟨[],As,true,by rw[List.getElem?_append_left (by simp)]; simp,Nat.le_refl _⟩⟩
  ·obtain ⟨q1,q2⟩:=h1 (by omega)
   rw[q1]
   exact ⟨h.1,fun _=>⟨σ.length+1,s.2.1,by rw[h.1],q2⟩,fun a ha=>by cases ha; exact ⟨_,_,_,q2,Nat.zero_le _⟩⟩
 ·by_cases h0:s.2.1=0
  ·rw[h2 h0]; simp[hs]
  ·rw[(h1 (by omega)).1]; simp[hs]
 ·intro j hj
  by_cases h0:s.2.1=0
  ·rw[h2 h0] at hj; simp[hs] at hj; exact .inl hj
  ·obtain ⟨q1,q2⟩:=h1 (by omega)
   rw[q1] at hj; simp only[hs,List.mem_singleton] at hj
   exact .inr ⟨hj,by rw[hj]; exact Al q2⟩
theorem Ak1:IK P Am=some 2:=by kernel_rfl
theorem Aks:bytesOf P Am=some 16:=by kernel_rfl
theorem Ak4:FR P Am=some (.agg #[.int .i64 0,.int .i64 0]):=by kernel_rfl
end Go.Proofs.YtphkfdnecpacmaaGreat
end
section
namespace Go.Proofs.YtphkfdnecpacmaaGreat
open Go Go.AX
noncomputable local instance qSD:AA:=Aw
local instance nSD:Kn:=⟨true⟩
variable {σ:Aa} {m:HM} {i:DB}
theorem mK (k:Nat) (h:An σ i m) (b:Int):AY (k+3) (AV i) b σ=some (.int .i64 (CC m b),σ):=by
 unfold CC
 by_cases hb:0≤b∧b<(m.bls.length:Int)
 ·rw[if_pos hb]
  obtain ⟨n,rfl⟩:∃ n:Nat,b=(n:Int):=⟨b.toNat,by omega⟩
  rw[Int.toNat_natCast]
  exact Acb k h (by omega)
 ·rw[if_neg hb,Mn,Je]
  try simp only[sw,Ad,Af,Ae]
  by_cases h0:b<0
  ·simp only[decide_eq_true h0,cond_true,Option.bind_some]
  ·simp only[decide_eq_false h0,cond_false,Pn k h,Option.bind_some,Aj,decide_eq_true (show b≥((m.bls.length:Nat):Int) by omega),cond_true]
theorem Afh (k:Nat) (h:An σ i m) (b:Int):BO (k+3) (AV i) b σ=some (.int .i64 (Re m b),σ):=by
 unfold Re
 by_cases hb:0≤b∧b<(m.bls.length:Int)
 ·rw[if_pos hb]
  obtain ⟨n,rfl⟩:∃ n:Nat,b=(n:Int):=⟨b.toNat,by omega⟩
  rw[Int.toNat_natCast]
  exact Ab9 k h (by omega)
 ·rw[if_neg hb,Mm,Jd]
  try simp only[sw,Ad,Af,Ae]
  by_cases h0:b<0
  ·simp only[decide_eq_true h0,cond_true,Option.bind_some]
  ·simp only[decide_eq_false h0,cond_false,Pn k h,Option.bind_some,Aj,decide_eq_true (show b≥((m.bls.length:Nat):Int) by omega),cond_true]
theorem zw (k:Nat) (hk:5000≤k) (h:An σ i m) (b:Int):∃ τ s,Ba (k+6) (AV i) b σ=some (.slice s.1 s.2.1 s.2.2,σ++τ)∧Fe σ.length (σ++τ) s (ET (Ms m b)):=by
 unfold Ms
 by_cases hb:0≤b∧b<(m.bls.length:Int)
 ·rw[if_pos hb]
  obtain ⟨n,rfl⟩:∃ n:Nat,b=(n:Int):=⟨b.toNat,by omega⟩
  rw[Int.toNat_natCast]
  exact nk k hk h (by omega)
 ·rw[if_neg hb,KR,Hu]
  try simp only[sw,Ad,Af,Ae]
  refine ⟨[],(none,0,0), ?_,.inl ⟨rfl,rfl⟩⟩
  simp only[Ln _ h,Option.bind_some,Ar,Bool.not_true,cond_false,List.append_nil]
  by_cases h0:b<0
  ·simp only[decide_eq_true h0,cond_true,Option.bind_some]
  ·simp only[decide_eq_false h0,cond_false,Option.bind_some,Nat.zero_add,h.Kw,decide_eq_true (show b≥((m.bls.length:Nat):Int) by omega),cond_true]
theorem Afg (k:Nat) (h:An σ i m) (a:Int) (ha:AU a):∃ τ,A9 (k+6) (AV i) a σ=some (.tuple #[if DZ m a then xQ m (a.toNat/2) else xP,.int .i64 (if DZ m a then 0 else 4)],σ++τ):=by
 cases hh:DZ m a with
 | true=>
   obtain ⟨j,rfl,hs⟩:=Ej hh
   obtain ⟨τ,e⟩:=Ab8 k h hs
   refine ⟨τ, ?_⟩
   rw[e,show ((2*j:Nat):Int).toNat/2=j from by omega]
   rfl
 | false=>
   rw[Ml,Jc]
   try simp only[sw,Ad,Af,Ae]
   simp only[AM]
   have h1:=h.app [A6.cells [Value.int .i64 0,.int .i64 0,.int .i64 0] Ag true]
   have hN:∀ x y z:Value,Z1 (σ++[A6.cells [x,y,z] Ag true]) σ.length 0 3=some [x,y,z]:=fun x y z=>by simp[Z1]
   refine ⟨[A6.cells [.int .i64 0,.int .i64 0,.int .i64 0] Ag true], ?_⟩
   simp only[UH k h1 a ha,hh,Bool.false_eq_true,if_false,Option.bind_some,Aj,ne4,cond_true,Io,hN,NZ]
   rfl
theorem nB (k:Nat) (h:An σ i m) (hI:Inv m) (a x:Int) (ha:AU a):∃ τ,AL (k+7) (AV i) a x σ=some (.tuple #[.int .i64 (Yw m a x false).1,.int .i64 (Yw m a x false).2],σ++τ):=by
 obtain ⟨τ,e⟩:=o8 k h hI a x ha false
 refine ⟨τ, ?_⟩
 rw[Vi,Oj]
 try simp only[sw,Ad,Af,Ae]
 simp only[e,Option.bind_some,Fq]
 unfold Yw
 by_cases h0:(DF m a x false).2=0
 ·rw[if_pos h0]
  have hf:0≤(DF m a x false).1∧(DF m a x false).1<(m.wds.length:Int):=by
   unfold DF at h0 ⊢
   split at h0
   ·rename_i hh
    obtain ⟨j,rfl,hs⟩:=Ej hh
    have hfit:=hI.fit j hs
    have hz:=hI.size hs
    simp only[show ((2*j:Nat):Int).toNat/2=j from by omega,Bool.false_eq_true,if_false] at h0 ⊢
    split at h0
    ·rename_i hx
     rw[if_pos (du hs),if_pos hx]
     dsimp only
     omega
    ·cases h0
   ·cases h0
  obtain ⟨n,hn⟩:∃ n:Nat,(DF m a x false).1=(n:Int):=⟨(DF m a x false).1.toNat,by omega⟩
  have qx:(0≤(n:Int)∧(n:Int)<((m.wds.length:Nat):Int))=True:=eq_true (by omega)
  simp only[h0,hn,bne_self_eq_false,cond_false,Nat.zero_add,(h.app τ).GC,Option.bind_some,qx,if_true,Int.toNat_natCast,Nat.mul_one,(h.app τ).ldW (show n<m.wds.length by omega)]
 ·rw[if_neg h0]
  simp only[bne_iff_ne.2 h0,cond_true]
theorem Ahz (k:Nat) (h:An σ i m) (hI:Inv m) (a x:Int) (ha:AU a):∃ τ,HL (k+7) (AV i) a x σ=some (.tuple #[.int .i64 (Yw m a x true).1,.int .i64 (Yw m a x true).2],σ++τ):=by
 obtain ⟨τ,e⟩:=o8 k h hI a x ha true
 refine ⟨τ, ?_⟩
 rw[dK,R8]
 try simp only[sw,Ad,Af,Ae]
 simp only[e,Option.bind_some,Fq]
 unfold Yw
 by_cases h0:(DF m a x true).2=0
 ·rw[if_pos h0]
  have hf:0≤(DF m a x true).1∧(DF m a x true).1<(m.wds.length:Int):=by
   unfold DF at h0 ⊢
   split at h0
   ·rename_i hh
    obtain ⟨j,rfl,hs⟩:=Ej hh
    have hfit:=hI.fit j hs
    have hz:=hI.size hs
    simp only[show ((2*j:Nat):Int).toNat/2=j from by omega,if_true] at h0 ⊢
    split at h0
    ·rename_i hx
     rw[if_pos (du hs),if_pos hx]
     dsimp only
     omega
    ·cases h0
   ·cases h0
  obtain ⟨n,hn⟩:∃ n:Nat,(DF m a x true).1=(n:Int):=⟨(DF m a x true).1.toNat,by omega⟩
  have qx:(0≤(n:Int)∧(n:Int)<((m.wds.length:Nat):Int))=True:=eq_true (by omega)
  simp only[h0,hn,bne_self_eq_false,cond_false,Nat.zero_add,(h.app τ).GC,Option.bind_some,qx,if_true,Int.toNat_natCast,Nat.mul_one,(h.app τ).ldW (show n<m.wds.length by omega)]
 ·rw[if_neg h0]
  simp only[bne_iff_ne.2 h0,cond_true]
theorem yK {c:Prop} [Decidable c] {r r':Int × HM} (h:c→FZ r.2) (h':¬ c→FZ r'.2):FZ (if c then r else r').2:=by
 split
 ·exact h ‹_›
 ·exact h' ‹_›
theorem tt {m':HM} (h:FZ m) (hb:m'.bls=m.bls):FZ m':=by unfold FZ; rw[hb]; exact h
theorem zU (h:FZ m) (b c x y x' y':Int) (hx:x≠0) (hx':x'≠0∨c=1):FZ (Dd m b c x y x' y').2:=by
 unfold Dd
 refine yK (fun hc=>yK (fun hu=>?_) fun _=>h) fun _=>h
 intro d hd
 have hd:(((fT m.bls b.toNat (x',y') c.toNat 0).set b.toNat (x,y)).getD d (0,0)).1=0:=hd
 show (((fT m.bls b.toNat (x',y') c.toNat 0).set b.toNat (x,y)).getD d (0,0)).2=0
 rw[lg,KQ] at hd ⊢
 by_cases h1:d=b.toNat∧b.toNat<m.bls.length
 ·rw[if_pos h1] at hd; exact absurd hd hx
 ·rw[if_neg h1] at hd ⊢
  rw[th _ _ _ _ _ _ (by omega)] at hd ⊢
  split at hd
  ·rename_i hr
   rcases hx' with hx' | rfl
   ·exact absurd hd hx'
   ·rw[show (1:Int).toNat=1 from rfl] at hr
    exact absurd ⟨by omega,by omega⟩ h1
  ·rename_i hr
   rw[if_neg hr]; exact h d hd
theorem vI (h:FZ m) (b:Int):FZ (DI m b).2:=by
 unfold DI
 refine yK (fun hc=>yK (fun hu=>?_) fun _=>h) fun _=>h
 intro d hd
 have hd:((pb m.bls b.toNat (Od m b.toNat)).getD d (0,0)).1=0:=hd
 show ((pb m.bls b.toNat (Od m b.toNat)).getD d (0,0)).2=0
 rw[Yx] at hd ⊢
 split
 ·rfl
 ·rename_i hr
  rw[if_neg hr] at hd; exact h d hd
end Go.Proofs.YtphkfdnecpacmaaGreat
end
section
namespace Go.Proofs.YtphkfdnecpacmaaGreat
open Go Go.AX
noncomputable local instance qSE:AA:=Aw
local instance nSE:Kn:=⟨true⟩
variable {σ:Aa} {m:HM} {t:RM} {i:DB} {j:RI}
structure Two (σ:Aa) (i:DB) (j:RI) (m:HM) (t:RM):Prop where
 h:An σ i m
 g:RG σ j m t
 P:OB m
 z:FZ m
 b0:B0 m
 off:∀ q ∈ i.l,q ∉ j.l
 br:m.births≤1000
 fl:m.fw.length≤1000
theorem Two.app (T:Two σ i j m t) (τ:Aa):Two (σ++τ) i j m t:=⟨T.h.app τ,T.g.app τ,T.P,T.z,T.b0,T.off,T.br,T.fl⟩
def Au (m:HM) (a:Int):Int × Int × Int:=if DZ m a then (A5 m (a.toNat/2),BN m (a.toNat/2),Fl m (a.toNat/2)) else (0,0,0)
theorem vY (m:HM) (a:Int):(if DZ m a then xQ m (a.toNat/2) else xP) = .agg #[.int .i64 (Au m a).1,.int .i64 (Au m a).2.1,.int .i64 (Au m a).2.2]:=by
 unfold Au; split <;> rfl
theorem UL (hI:Inv m) (a:Int):0≤(Au m a).1∧(Au m a).1≤200∧0≤(Au m a).2.1∧(Au m a).2.1≤200:=by
 unfold Au
 split
 ·rename_i hh
  obtain ⟨j,rfl,hs⟩:=Ej hh
  obtain ⟨_,r1,r2,r3,r4,_⟩:=YM hI hs
  rw[show ((2*j:Nat):Int).toNat/2=j from by omega]
  dsimp only
  omega
 ·dsimp only; omega
end Go.Proofs.YtphkfdnecpacmaaGreat
end
section
namespace Go.Proofs.YtphkfdnecpacmaaGreat
open Go Go.AX
noncomputable local instance qGA:AA:=Aw
local instance nGA:Kn:=⟨true⟩
variable {σ:Aa}
structure Mv (L L':List Nat) (σ σ':Aa):Prop where
 len:σ.length≤σ'.length
 same:∀ q,q<σ.length→q ∉ L→σ'[q]?=σ[q]?
 new:∀ q,q ∈ L'→q ∈ L∨σ.length≤q
theorem Mv.refl (L:List Nat) (σ:Aa):Mv L L σ σ:=⟨Nat.le_refl _,fun _ _ _=>rfl,fun _ h=>.inl h⟩
theorem Mv.app (L:List Nat) (σ τ:Aa):Mv L L σ (σ++τ):=⟨by simp,fun q h _=>List.getElem?_append_left h,fun _ h=>.inl h⟩
theorem Mv.trans {L L' L'':List Nat} {a b c:Aa} (h:Mv L L' a b) (g:Mv L' L'' b c):Mv L L'' a c:=by
 refine ⟨Nat.le_trans h.len g.len,fun q h1 h2=>?_,fun q hq=>?_⟩
 ·refine (g.same q (Nat.lt_of_lt_of_le h1 h.len) fun hm=>?_).trans (h.same q h1 h2)
  rcases h.new q hm with h3 | h3
  ·exact h2 h3
  ·omega
 ·rcases g.new q hq with h1 | h1
  ·exact h.new q h1
  ·exact .inr (Nat.le_trans h.len h1)
theorem Mv.wide {L L' K K':List Nat} {a b:Aa} (h:Mv L L' a b) (h1:∀ q ∈ L,q ∈ K) (h2:∀ q ∈ K',q ∈ K∨q ∈ L'∨a.length≤q):Mv K K' a b:=
 ⟨h.len,fun q hq hn=>h.same q hq fun hm=>hn (h1 q hm),fun q hq=>by
  rcases h2 q hq with e | e | e
  ·exact .inl e
  ·exact (h.new q e).imp (h1 q) id
  ·exact .inr e⟩
theorem Mv.left {L L':List Nat} {a b:Aa} (h:Mv L L' a b) (X:List Nat):Mv (L++X) (L'++X) a b:=
 h.wide (fun q hq=>List.mem_append.2 (.inl hq)) fun q hq=>(List.mem_append.1 hq).elim (fun e=>.inr (.inl e)) fun e=>.inl (List.mem_append.2 (.inr e))
theorem Mv.right {L L':List Nat} {a b:Aa} (h:Mv L L' a b) (X:List Nat):Mv (X++L) (X++L') a b:=
 h.wide (fun q hq=>List.mem_append.2 (.inr hq)) fun q hq=>(List.mem_append.1 hq).elim (fun e=>.inl (List.mem_append.2 (.inl e))) fun e=>.inr (.inl e)
theorem Mv.GJ {L L' X:List Nat} {a b:Aa} (h:Mv L L' a b) (hx:∀ q ∈ X,q<a.length) (hd:∀ q ∈ X,q ∉ L):(∀ q ∈ X,b[q]?=a[q]?)∧(∀ q ∈ X,q ∉ L') ∧ ∀ q ∈ X,q<b.length:=
 ⟨fun q hq=>h.same q (hx q hq) (hd q hq),fun q hq hm=>(h.new q hm).elim (hd q hq) fun e=>absurd (hx q hq) (Nat.not_lt.2 e),fun q hq=>Nat.lt_of_lt_of_le (hx q hq) h.len⟩
theorem Mv.nil {L':List Nat} {a b:Aa} (h:Mv [] L' a b) (L:List Nat):Mv L (L'++L) a b:=by
 have:=h.left L
 rw[List.nil_append] at this
 exact this
theorem Bu.mv {i:DB} {a b:Aa} (h:Bu i a b):Mv i.l i.l a b:=⟨h.len,h.same,fun _ h=>.inl h⟩
theorem HU.mv {i i':RI} {a b:Aa} (h:HU i i' a b):Mv i.l i'.l a b:=⟨h.len,h.same,h.new⟩
theorem Mv.set {L:List Nat} {q:Nat} (σ:Aa) (o:A6) (h:q ∈ L):Mv L L σ (σ.set q o):=
 ⟨by simp,fun j _ h2=>List.getElem?_set_ne (fun e=>h2 (by rw[← e]; exact h)),fun _ h=>.inl h⟩
theorem Mv.Rl {L L':List Nat} {a b:Aa} (h:Mv L L' a b) {q:Nat} {o:A6} (hq:a[q]?=some o) (hn:q ∉ L):b[q]?=some o:=(h.same q (Al hq) hn).trans hq
def B6 (σ:Aa) (s:Ci) (l:List Int):Prop:=EL As 1 σ s l.length (Bm l)∨(l=[] ∧ ∃ b cs T w,s=(some ⟨b,0,some 0⟩,0,0)∧σ[b]?=some (.cells cs T w))
theorem B6.AF {σ':Aa} {s:Ci} {l:List Int} (h:B6 σ s l) (hq:∀ b ∈ hs s,σ'[b]?=σ[b]?):B6 σ' s l:=by
 rcases h with h | ⟨h0,b,cs,T,w,rfl,hc⟩
 ·exact .inl (h.AF fun a ha=>hq _ (Ch.2 ⟨a,ha,rfl⟩))
 ·exact .inr ⟨h0,b,cs,T,w,rfl,(hq _ (Ch.2 ⟨_,rfl,rfl⟩)).trans hc⟩
theorem B6.lt {s:Ci} {l:List Int} (h:B6 σ s l):∀ b ∈ hs s,b<σ.length:=by
 intro b hb
 obtain ⟨a,ha,rfl⟩:=Ch.1 hb
 rcases h with h | ⟨h0,b,cs,T,w,rfl,hc⟩
 ·exact h.lt a ha
 ·cases ha; exact Al hc
theorem B6.app {s:Ci} {l:List Int} (h:B6 σ s l) (τ:Aa):B6 (σ++τ) s l:=h.AF fun b hb=>List.getElem?_append_left (h.lt b hb)
theorem B6.nil (σ:Aa):B6 σ (none,0,0) []:=.inl (EL.nil _ _ _)
theorem B6.form {s:Ci} {l:List Int} (h:B6 σ s l):s=(s.1,l.length,l.length):=by
 rcases h with h | ⟨rfl,b,cs,T,w,rfl,hc⟩
 ·exact h.form
 ·rfl
theorem B6.ints {lo:Nat} {s:Ci} {l:List Int} (h:Fe lo σ s l):B6 σ s l:=.inl h.sl
theorem B6.ld {s:Ci} {l:List Int} (h:B6 σ s l) {x:Nat} (hx:x<l.length):∃ b,s.1=some ⟨b,0,none⟩∧Df .i64 σ b x=some (l.getD x 0)∧σ[b]?=some (.cells (Bm l) As true):=by
 rcases h with (⟨h,_⟩ | ⟨b,rfl,_,_,hc⟩) | ⟨rfl,_⟩
 ·omega
 ·exact ⟨b,rfl,Adt hc hx,hc⟩
 ·simp at hx
theorem B6.first {s:Ci} {l:List Int} (h:B6 σ s l):Dq σ 1 s.1 l.length=some (Bm l):=by
 rcases h with h | ⟨rfl,b,cs,T,w,rfl,hc⟩
 ·exact h.first
 ·simp[Dq,Z1,hc,Bm]
theorem B6.g {s:Ci} {l:List Int} (h:B6 σ s l):Ff σ s l:=by
 rcases h with (⟨h,h2,rfl⟩ | ⟨b,rfl,_,_,hc⟩) | ⟨rfl,b,cs,T,w,rfl,hc⟩
 ·have:l=[]:=List.length_eq_zero_iff.1 h
  subst this
  exact ⟨rfl,fun h=>absurd rfl h,fun a ha=>by cases ha⟩
 ·exact ⟨rfl,fun _=>⟨b,_,rfl,hc⟩,fun a ha=>by cases ha; exact ⟨_,_,_,hc,Nat.zero_le _⟩⟩
 ·exact ⟨rfl,fun h=>absurd rfl h,fun a ha=>by cases ha; exact ⟨_,_,_,hc,Nat.zero_le _⟩⟩
theorem PW.mv {σ':Aa} {s s':Ci} (g:PW σ s σ' s'):Mv (hs s) (hs s') σ σ':=by
 refine ⟨g.len,fun q hq hn=>g.same q hq fun a ha e=>hn (Ch.2 ⟨a,ha,e⟩),fun q hq=>?_⟩
 rcases g.new with rfl | hw
 ·exact .inl hq
 ·obtain ⟨a,ha,rfl⟩:=Ch.1 hq
  exact .inr (hw a ha)
theorem B6.push {s:Ci} {l:List Int} (h:B6 σ s l) (x:Int) (T:TypeId) (hl:l.length≤900000):
  ∃ s' σ',BH P As (s.1,s.2.1,s.2.2) (some ⟨σ.length,0,none⟩,1,1) (σ++[.cells [.int .i64 x] T true])=some (s',σ')∧B6 σ' s' (l++[x])∧Mv (hs s) (hs s') σ σ':=by
 rcases h with h | ⟨rfl,b,cs,U,w,rfl,hc⟩
 ·obtain ⟨s',σ',e,g,h'⟩:=cy sz3 by3 zz3 rfl rfl (by decide) (by decide) (by decide) σ s l.length (Bm l) 1 1 [.int .i64 x] T (by omega) (by decide) rfl h
  refine ⟨s',σ',e,.inl ?_,g.mv⟩
  rw[List.length_append,U6]
  exact h'
 ·refine ⟨(some ⟨σ.length+1,0,none⟩,1,1),σ++[.cells [.int .i64 x] T true]++[.cells [.int .i64 x] As true], ?_,.inl (.inr ⟨σ.length+1,rfl,Nat.zero_le _,rfl,by simp[Bm]⟩), ?_⟩
  ·have hf:Dq (σ++[.cells [.int .i64 x] T true]) 1 (some ⟨σ.length,0,none⟩) 1=some [.int .i64 x]:=by simp[Dq,Z1]
   have hz:(¬ (GW (.int .i64 0)=false∧some 1=some (Value.cells (.int .i64 0)).size∧0<(Value.cells (.int .i64 0)).size))=False:=by simp[GW,Value.cells]
   have r:Q9 (0+1) 8∧0<8:=by unfold Q9; decide
   unfold BH PZ
   simp only[sz3,by3,zz3,Option.bind_some,hf,hz,if_false,show ¬ (0+1≤0) from by decide,r,and_self,if_true,Ik,Option.isSome_some,cond_true,slK,List.length_append,List.length_cons,List.length_nil,Nat.zero_add]
  ·refine ⟨by simp,fun q hq _=>by rw[List.append_assoc,List.getElem?_append_left hq],fun q hq=>.inr ?_⟩
   simp[hs] at hq
   omega
def Dj (A B:List Nat):Prop:=∀ q ∈ A,q ∉ B
theorem Dj.symm {A B:List Nat} (h:Dj A B):Dj B A:=fun q hq hm=>h q hm hq
structure Fp (σ:Aa) (Ls:List (List Nat)):Prop where
 dj:Ls.Pairwise Dj
 lt:∀ L ∈ Ls,∀ q ∈ L,q<σ.length
theorem Ad7 {α:Type} {R:α→α→Prop} (hs:∀ a b,R a b→R b a):∀ (l:List α) (x:Nat) (b:α),l.Pairwise R→(∀ y (hy:y<l.length),y≠x→R b l[y])→(l.set x b).Pairwise R
 | [],_,_,_,_=>by simp
 | a::l,0,b,h,hb=>by
   rw[List.set_cons_zero]
   obtain ⟨_,h2⟩:=List.pairwise_cons.1 h
   refine List.pairwise_cons.2 ⟨fun c hc=>?_,h2⟩
   obtain ⟨y,hy,rfl⟩:=List.getElem_of_mem hc
   exact hb (y+1) (by simpa using hy) (by omega)
 | a::l,x+1,b,h,hb=>by
   rw[List.set_cons_succ]
   obtain ⟨h1,h2⟩:=List.pairwise_cons.1 h
   refine List.pairwise_cons.2 ⟨fun c hc=>?_,Ad7 hs l x b h2 fun y hy hne=>hb (y+1) (by simpa using hy) (by omega)⟩
   rcases List.mem_or_eq_of_mem_set hc with hc | rfl
   ·exact h1 c hc
   ·exact hs _ _ (hb 0 (by simp) (by omega))
theorem Ad6 {α:Type} {R:α→α→Prop} (hs:∀ a b,R a b→R b a) {l:List α} (h:l.Pairwise R) {x y:Nat} (hx:x<l.length) (hy:y<l.length) (hne:y≠x):R l[x] l[y]:=by
 rcases Nat.lt_or_gt_of_ne hne with h' | h'
 ·exact hs _ _ (List.pairwise_iff_getElem.1 h y x hy hx h')
 ·exact List.pairwise_iff_getElem.1 h x y hx hy h'
theorem Fp.step {Ls:List (List Nat)} {L':List Nat} {σ':Aa} (h:Fp σ Ls) (x:Nat) (hx:x<Ls.length) (hm:Mv Ls[x] L' σ σ') (hl:∀ q ∈ L',q<σ'.length):
  Fp σ' (Ls.set x L')∧(∀ y (hy:y<Ls.length),y≠x → ∀ q ∈ Ls[y],σ'[q]?=σ[q]?)∧Mv Ls.flatten (Ls.set x L').flatten σ σ':=by
 have key:∀ y (hy:y<Ls.length),y≠x→(∀ q ∈ Ls[y],σ'[q]?=σ[q]?)∧Dj L' Ls[y]:=by
  intro y hy hne
  obtain ⟨h1,h2,_⟩:=hm.GJ (X:=Ls[y]) (fun q hq=>h.lt _ (List.getElem_mem hy) q hq) (fun q hq hm'=>Ad6 (fun _ _=>Dj.symm) h.dj hy hx (Ne.symm hne) q hq hm')
  exact ⟨h1,fun q hq hm'=>h2 q hm' hq⟩
 refine ⟨⟨Ad7 (fun _ _=>Dj.symm) Ls x L' h.dj fun y hy hne=>(key y hy hne).2,fun L hL q hq=>?_⟩,fun y hy hne=>(key y hy hne).1,hm.wide (fun q hq=>List.mem_flatten.2 ⟨_,List.getElem_mem hx,hq⟩) fun q hq=>?_⟩
 ·rcases List.mem_or_eq_of_mem_set hL with hL | rfl
  ·exact Nat.lt_of_lt_of_le (h.lt L hL q hq) hm.len
  ·exact hl q hq
 ·obtain ⟨K,hK,hqK⟩:=List.mem_flatten.1 hq
  rcases List.mem_or_eq_of_mem_set hK with hK | hK
  ·exact .inl (List.mem_flatten.2 ⟨K,hK,hqK⟩)
  ·exact .inr (.inl (hK ▸ hqK))
theorem Fp.app {Ls:List (List Nat)} (h:Fp σ Ls) (τ:Aa):Fp (σ++τ) Ls:=⟨h.dj,fun L hL q hq=>by have:=h.lt L hL q hq; rw[List.length_append]; omega⟩
theorem Fp.cons {Ls:List (List Nat)} {L:List Nat} {σ':Aa} (h:Fp σ Ls) (hl:∀ q ∈ L,σ.length≤q∧q<σ'.length) (hs:σ.length≤σ'.length):Fp σ' (L::Ls):=
 ⟨List.pairwise_cons.2 ⟨fun K hK q hq hm=>by have:=h.lt K hK q hm; have:=(hl q hq).1; omega,h.dj⟩,fun K hK q hq=>by
  rcases List.mem_cons.1 hK with rfl | hK
  ·exact (hl q hq).2
  ·exact Nat.lt_of_lt_of_le (h.lt K hK q hq) hs⟩
theorem Fp.nil (σ:Aa):Fp σ []:=⟨List.Pairwise.nil,fun L hL=>by cases hL⟩
theorem Fp.ne {Ls:List (List Nat)} (h:Fp σ Ls) {x y:Nat} (hx:x<Ls.length) (hy:y<Ls.length) (hne:y≠x):Dj Ls[x] Ls[y]:=Ad6 (fun _ _=>Dj.symm) h.dj hx hy hne
theorem Fp.sub {Ls Ks:List (List Nat)} (h:Fp σ Ls) (f:List Nat) (hf:f.Nodup) (hlt:∀ x ∈ f,x<Ls.length) (hk:Ks=f.map fun x=>Ls.getD x []):Fp σ Ks:=by
 subst hk
 have hg:∀ x (hx:x<Ls.length),Ls.getD x []=Ls[x]:=fun x hx=>by rw[List.getD_eq_getElem?_getD,List.getElem?_eq_getElem hx]; rfl
 refine ⟨List.pairwise_map.2 (hf.imp_of_mem fun {a b} ha hb hne=>?_),fun L hL q hq=>?_⟩
 ·rw[hg a (hlt a ha),hg b (hlt b hb)]
  exact h.ne _ _ (Ne.symm hne)
 ·obtain ⟨x,hx,rfl⟩:=List.mem_map.1 hL
  rw[hg x (hlt x hx)] at hq
  exact h.lt _ (List.getElem_mem (hlt x hx)) q hq
end Go.Proofs.YtphkfdnecpacmaaGreat
end
section
namespace Go.Proofs.YtphkfdnecpacmaaGreat
open Go Go.AX
noncomputable local instance qGB:AA:=Aw
local instance nGB:Kn:=⟨true⟩
structure Ky where
 mu:Nat
 sl:List Int
 gl:List Int
 qu:List Int
def Ky.all (r:Ky):List Int:=r.sl++r.gl++r.qu
structure Ky.ok (r:Ky):Prop where
 m1:1≤r.mu
 m4:r.mu≤4
 sl:r.sl.length=16*r.mu
 gl:r.gl.length=16
 qu:r.qu.length≤64
 inn:∀ v ∈ r.all,AU v∧0≤v
def Wf (out:List Int) (a:Int):List Int:=if a=0∨a ∈ out then out else out++[a]
def H9 (r:Ky):List Int:=r.all.foldl Wf []
structure TC where
 look:Bool
 born:Int
 ph:Int
 ws:List (BitVec 64)
 list:List Int
 left:List Int
 freed:Int
variable (m:HM) (r:Ky) (s:TC)
def tj (a:Int):Nat:=Eb 2 s.ws (a.toNat/2)
def gw (s:TC) (a:Int) (c:Nat):TC:={ s with ws:=GK 2 s.ws (a.toNat/2) c }
def QZ (s:TC) (a:Int):TC:=if DZ m a=true∧tj s a=0 then { gw s a 1 with list:=s.list++[a] } else s
def JS (s:TC) (l:List Int):TC:=l.foldl (QZ m) s
def Up (a:Int):Bool:=DZ m a && decide (tj s a≠0)
def DH (a x:Int):Int:=(Yw m a x false).1
def Wb (k:Int) (x:Int):Bool:=(decide (x=0) && (decide (k=1) || decide (k=2))) || (decide (x=1) && decide (k=2))
def c8 (a:Int):List Int:=(List.range (Au m a).1.toNat).map fun (x:Nat)=>DH m a ((x:Nat):Int)
def Rf (a:Int):List Int:=((List.range (Au m a).1.toNat).filter fun (x:Nat)=>decide (DH m a (x:Int)≠0) && !Wb (Au m a).2.2 (x:Int)).map fun (x:Nat)=>DH m a (x:Int)
def im (l:List Int):List Int:=(l.filter fun a=>Up m s a && decide ((Au m a).2.2=2) && Up m s (DH m a 0)).map fun a=>DH m a 1
def Ht:List Int:=ET (FA m)
def Ac6:TC:=JS m s (im m s (Ht m))
def fW (a k:Int):Nat→Nat→HM→HM
 | 0,_,m=>m
 | n+1,x,m=>fW a k n (x+1) (if DH m a (x:Int)≠0∧Wb k (x:Int)=true then (EJ m a (x:Int) 0).2 else m)
def Ac4 (a:Int):HM:=
 if (Au m a).2.2≠1∧(Au m a).2.2≠2 then m
 else if DH m a 0≠0∧Up m s (DH m a 0)=true then m
 else fW a (Au m a).2.2 (Au m a).1.toNat 0 m
def ij (l:List Int):HM:=l.foldl (fun m a=>if Up m s a then Ac4 m s a else m) m
def td:List Int:=((List.range m.bls.length).filter fun (b:Nat)=>decide (CC m (b:Int)=1∨CC m (b:Int)=2)).map fun (b:Nat)=>(b:Int)
def yP:HM × TC:=
 let s1:=if s.look then JS m s (H9 r) else s
 let s2:=Ac6 m s1
 if s2.list≠[] then (m,s2)
 else
  let m':=ij m s2 (Ht m)
  (m',{ s2 with left:=s2.left++td m',ph:=2 })
def VB (ws:List (BitVec 64)):List Int→HM × Int→HM × Int
 | [],q=>q
 | a::l,q=>VB ws l (if Eb 2 ws (a.toNat/2)=0 then ((Kq q.1 a).2,Ce (q.2+1)) else q)
def kZ (ws:List (BitVec 64)):Nat→Nat→List (BitVec 64)
 | 0,_=>ws
 | n+1,x=>kZ (GK 2 ws x 0) n (x+1)
def vl (n:Nat) (s:TC):TC:=if s.left=[] then { s with ws:=kZ s.ws n 0,ph:=0 } else s
def xX:HM × TC:=
 match s.left with
 | []=>(m,vl (32*m.bls.length) s)
 | b::l=>
   let q:=VB s.ws (ET (Ms m b)) (m,s.freed)
   ((DI q.1 b).2,vl (32*m.bls.length) { s with left:=l,freed:=q.2 })
def Agi:TC:=
 match s.list with
 | []=>s
 | a::l=>
   if DZ m a then gw (JS m { s with list:=l } (Rf m a)) a 2 else { s with list:=l }
def ju:HM × TC:=
 if s.ph=2 then xX m s
 else if s.list≠[] then (m,Agi m s)
 else yP m r s
def EX (r:Ky):Nat→HM × TC→Nat × HM × TC
 | 0,q=>(0,q)
 | n+1,q=>if q.2.ph=0 then (0,q) else
   let z:=EX r n (ju q.1 r q.2)
   (z.1+1,z.2)
theorem su (r:Ky):∀ (a c:Nat) (q:HM × TC),EX r (a+c) q=((EX r a q).1+(EX r c (EX r a q).2).1,(EX r c (EX r a q).2).2)
 | 0,c,q=>by simp[EX]
 | a+1,c,q=>by
   rw[show a+1+c=(a+c)+1 from by omega,EX,EX]
   by_cases h:q.2.ph=0
   ·rw[if_pos h,if_pos h]
    cases c with
    | zero=>simp[EX]
    | succ c=>simp[EX,h]
   ·rw[if_neg h,if_neg h,su r a c]
    simp only[Nat.add_right_comm]
def tV:TC:=JS m { s with freed:=0,ph:=1 } (H9 r)
def cS:Bool:=(H9 r).all (fun a=>decide (a=0) || DZ m a) && (Ht m).all fun a=>(c8 m a).all fun v=>decide (v=0) || DZ m v
def iO (n:Nat) (look:Bool) (born:Int):TC:=⟨look,born,0,List.replicate ((32*n*2+63)/64) 0#64,[],[],0⟩
end Go.Proofs.YtphkfdnecpacmaaGreat
end
section
namespace Go.Proofs.YtphkfdnecpacmaaGreat
open Go Go.AX
noncomputable local instance qGG:AA:=Aw
local instance nGG:Kn:=⟨true⟩
variable {m:HM} {r:Ky}
def Tu (m:HM):Prop:=∀ j,Start m j → ∀ x:Nat,(x:Int)<A5 m j→m.wds.getD (2*j+2+x) 0=0
def YR (m:HM):Prop:=∀ j,Start m j → ∀ x:Nat,(x:Int)<A5 m j→m.wds.getD (2*j+2+x) 0=0∨DZ m (m.wds.getD (2*j+2+x) 0)=true
theorem Tu.s (h:Tu m):YR m:=fun j hs x hx=>.inl (h j hs x hx)
def ZL (m:HM) (r:Ky):Prop:=∀ v ∈ r.all,v=0∨DZ m v=true
theorem kD {m':HM} (hl:m'.bls.length=m.bls.length) (hs:m'.stw=m.stw) (j:Nat):Start m' j↔Start m j:=by unfold Start; rw[hl,hs]
theorem vi {m':HM} (hl:m'.bls.length=m.bls.length) (hs:m'.stw=m.stw) (a:Int):DZ m' a=DZ m a:=by
 unfold DZ; simp only[kD hl hs]
theorem Tu.AF {m':HM} (h:Tu m) (hl:m'.bls.length=m.bls.length) (hs:m'.stw=m.stw) (hw:m'.wds=m.wds):Tu m':=by
 intro j hj x hx
 rw[hw]
 exact h j ((kD hl hs j).1 hj) x (by unfold A5 at hx ⊢; rw[hw] at hx; exact hx)
theorem YR.AF {m':HM} (h:YR m) (hl:m'.bls.length=m.bls.length) (hs:m'.stw=m.stw) (hw:m'.wds=m.wds):YR m':=by
 intro j hj x hx
 rw[hw,vi hl hs]
 exact h j ((kD hl hs j).1 hj) x (by unfold A5 at hx ⊢; rw[hw] at hx; exact hx)
theorem ZL.AF {m':HM} (h:ZL m r) (hl:m'.bls.length=m.bls.length) (hs:m'.stw=m.stw):ZL m' r:=fun v hv=>by rw[vi hl hs]; exact h v hv
theorem fU (m:HM) (b c x y x' y':Int):(Dd m b c x y x' y').2.wds=m.wds∧(Dd m b c x y x' y').2.stw=m.stw∧(Dd m b c x y x' y').2.bls.length=m.bls.length∧(Dd m b c x y x' y').2.births=m.births:=by
 unfold Dd
 split
 ·split
  ·exact ⟨rfl,rfl,by rw[List.length_set,KQ],rfl⟩
  ·exact ⟨rfl,rfl,rfl,rfl⟩
 ·exact ⟨rfl,rfl,rfl,rfl⟩
theorem Tu.ri (h:Tu m) (b c x y x' y':Int):Tu (Dd m b c x y x' y').2:=by
 obtain ⟨e1,e2,e3,_⟩:=fU m b c x y x' y'
 exact h.AF e3 e2 e1
theorem Tu.new (n:Nat):Tu (Mr n):=fun j hs=>absurd hs (rN n j)
theorem Tu.place (h:Tu m) (hI:Inv m) (hI2:Inv2 m) (hS:Sh m) (a r d c:Int):Tu (GX m a r d c).2.2:=by
 unfold GX
 cases hv:valid r d c with
 | false=>exact h
 | true=>
   simp only[if_true]
   by_cases hf:Q5 m a (X3 (num r d c)) (-1)=0
   rotate_left
   ·rw[if_neg hf]; exact h
   rw[if_pos hf]
   have hw2:2≤X3 (num r d c):=by
    have hv':=hv
    rw[O9 hv]
    simp[valid] at hv'
    omega
   obtain ⟨j,rfl,hj,hfit,hap⟩:=hI.fits hS.wl (pL _) hw2 hf
   rw[show ((2*j:Nat):Int).toNat/2=j from by omega]
   have hap':∀ o,Start m o→2*o+sz m o≤2*j∨2*j+X3 (num r d c)≤2*o:=fun o ho=>hap o ho (by omega)
   obtain ⟨p1,p2,p3,_⟩:=PG hv
   have hsz:=O9 hv
   have hv':=hv
   simp[valid] at hv'
   intro o ho x hx
   rcases (To hS.sl hj).1 ho with rfl | ho'
   ·have hr:A5 (DG m o (num r d c)) o=r:=by
     unfold A5; rw[K7 hS hj,if_pos rfl,p1]
    rw[hr] at hx
    rw[K7 hS hj,if_neg (by omega),if_neg (by omega)]
    refine hI2.zero _ fun y hy q1 q2=>?_
    have:=hap' y hy
    have:=hI.use hy
    omega
   ·have hu:=hI.use ho'
    have hap2:=hap' o ho'
    have hne:o≠j:=by
     rintro rfl
     omega
    have hr:A5 (DG m j (num r d c)) o=A5 m o:=by
     unfold A5; rw[K7 hS hj,if_neg (by omega),if_neg (by omega)]
    rw[hr] at hx
    obtain ⟨_,r1,r2,r3,r4,_⟩:=YM hI ho'
    rw[K7 hS hj,if_neg (by omega),if_neg (by omega)]
    exact h o ho' x hx
theorem Aal (hI:Inv m) (hS:Sh m) {j y:Nat} (hs:Start m j) (hy:Start m y) (hne:y≠j):A5 (K6 m j) y=A5 m y∧Fl (K6 m j) y=Fl m y ∧ ∀ x:Nat,(x:Int)<A5 m y→(K6 m j).wds.getD (2*y+2+x) 0=m.wds.getD (2*y+2+x) 0:=by
 have hz:=hI.size hy
 have e:(K6 m j).wds.getD (2*y+1) 0=m.wds.getD (2*y+1) 0:=VA hI hs hy hne (by omega) (by omega)
 refine ⟨by unfold A5; rw[e],by unfold Fl; rw[e],fun x hx=>VA hI hs hy hne (by omega) (by omega)⟩
theorem Tu.kill (h:Tu m) (hI:Inv m) (hS:Sh m) (a:Int):Tu (Kq m a).2:=by
 unfold Kq
 cases hh:DZ m a with
 | false=>exact h
 | true=>
   obtain ⟨j,rfl,hs⟩:=Ej hh
   rw[if_pos rfl,show ((2*j:Nat):Int).toNat/2=j from by omega]
   show Tu (K6 m j)
   intro y hy x hx
   obtain ⟨hne,hy'⟩:=(Sj hS.sl hs.1).1 hy
   obtain ⟨e1,_,e2⟩:=Aal hI hS hs hy' hne
   rw[e1] at hx
   show (K6 m j).wds.getD _ 0=0
   rw[e2 x hx]
   exact h y hy' x hx
theorem YR.setRef (h:YR m) (hI:Inv m) (a x v:Int):YR (EJ m a x v).2:=by
 unfold EJ
 by_cases hf:(DF m a x false).2=0
 rotate_left
 ·rw[if_neg hf]; exact h
 rw[if_pos hf]
 by_cases hv:v≠0∧DZ m v=false
 ·rw[if_pos hv]; exact h
 rw[if_neg hv]
 have hv':v=0∨DZ m v=true:=by
  by_cases h0:v=0
  ·exact .inl h0
  ·refine .inr ?_
   cases hh:DZ m v with
   | true=>rfl
   | false=>exact absurd ⟨h0,hh⟩ hv
 obtain ⟨j,t,hs,rfl,hw,hu,ht⟩:=o7 (w:=(DF m a x false).1) hI (Prod.ext rfl hf)
 rw[hw,Int.toNat_natCast]
 have hus:=hI.use hs
 have key:=pU hI hs (t:=t) (by omega) v
 intro y hy z hz
 have hy':Start m y:=hy
 have e1:A5 (MB m (2*j+2+t) v) y=A5 m y:=by unfold A5; rw[key y hy' 1 (by decide)]
 rw[e1] at hz
 have hh:∀ q,DZ (MB m (2*j+2+t) v) q=DZ m q:=fun q=>rfl
 rw[hh]
 show (m.wds.set _ _).getD _ 0=0∨DZ m ((m.wds.set _ _).getD _ 0)=true
 rw[CB]
 split
 ·exact hv'
 ·exact h y hy' z hz
theorem X0 (m:HM) (a x v:Int):(EJ m a x v).2.bls=m.bls∧(EJ m a x v).2.stw=m.stw∧(EJ m a x v).2.births=m.births∧(EJ m a x v).2.fw=m.fw∧(EJ m a x v).2.pnw=m.pnw:=by
 unfold EJ
 split
 ·split <;> exact ⟨rfl,rfl,rfl,rfl,rfl⟩
 ·exact ⟨rfl,rfl,rfl,rfl,rfl⟩
theorem kj (m:HM) (a:Int) (v:Nat):(Q7 m a v).2.bls=m.bls∧(Q7 m a v).2.stw=m.stw∧(Q7 m a v).2.wds=m.wds∧(Q7 m a v).2.births=m.births∧(Q7 m a v).2.fw=m.fw:=by
 unfold Q7
 split <;> exact ⟨rfl,rfl,rfl,rfl,rfl⟩
theorem YR.lI (h:YR m) (a:Int) (v:Nat):YR (Q7 m a v).2:=by
 obtain ⟨e1,e2,e3,_⟩:=kj m a v
 exact h.AF (by rw[e1]) e2 e3
theorem Agq (hI:Inv m) {j x:Nat} (hs:Start m j) (hx:(x:Int)<A5 m j):DH m ((2*j:Nat):Int) (x:Int)=m.wds.getD (2*j+2+x) 0:=by
 unfold DH Yw
 rw[o6 hI hs hx,if_pos rfl,Int.toNat_natCast]
theorem sr {j:Nat} (hs:Start m j):Au m ((2*j:Nat):Int)=(A5 m j,BN m j,Fl m j):=by
 unfold Au
 rw[if_pos (Zu hs),show ((2*j:Nat):Int).toNat/2=j from by omega]
theorem ke (v:Int):∀ (l out:List Int),v ∈ l.foldl Wf out→v ∈ out∨v ∈ l
 | [],out,h=>.inl h
 | a::l,out,h=>by
   rcases ke v l (Wf out a) h with h | h
   ·unfold Wf at h
    split at h
    ·exact .inl h
    ·rcases List.mem_append.1 h with h | h
     ·exact .inl h
     ·rw[List.mem_singleton.1 h]; exact .inr List.mem_cons_self
   ·exact .inr (List.mem_cons_of_mem _ h)
theorem Aeq (hI:Inv m) (h:YR m) (hr:ZL m r):cS m r=true:=by
 unfold cS
 rw[Bool.and_eq_true]
 constructor
 ·rw[List.all_eq_true]
  intro v hv
  rcases ke v r.all [] hv with h | h
  ·cases h
  ·rcases hr v h with h0 | h0 <;> simp[h0]
 ·rw[List.all_eq_true]
  intro a ha
  unfold Ht ET at ha
  obtain ⟨j,hj,rfl⟩:=List.mem_map.1 ha
  have hs:=Eu.1 hj
  rw[List.all_eq_true]
  intro v hv
  unfold c8 at hv
  rw[sr hs] at hv
  obtain ⟨x,hx,rfl⟩:=List.mem_map.1 hv
  have hx:=List.mem_range.1 hx
  obtain ⟨_,r1,_⟩:=YM hI hs
  dsimp only at hx
  rw[Agq hI hs (by omega)]
  rcases h j hs x (by omega) with h0 | h0
  ·rw[h0]; rfl
  ·rw[h0,Bool.or_true]
def ma (m:HM) (n:Nat):Int:=if FA m=[] then 0 else (ET (FA m)).getD (n % (FA m).length) 0
theorem Acx (m:HM) (n:Nat):ma m n=0∨DZ m (ma m n)=true:=by
 unfold ma
 split
 ·exact .inl rfl
 ·rename_i h
  have hl:n % (FA m).length<(FA m).length:=Nat.mod_lt _ (List.length_pos_iff.2 h)
  rw[YX _ hl]
  exact .inr (Zu (Eu.1 (List.getElem_mem hl)))
end Go.Proofs.YtphkfdnecpacmaaGreat
end
section
namespace Go.Proofs.YtphkfdnecpacmaaGreat
open Go Go.AX
noncomputable local instance qGC:AA:=Aw
local instance nGC:Kn:=⟨true⟩
variable {σ:Aa}
def Holds (σ:Aa) (p:Option Addr) (l:List Int):Prop:=Dq σ 1 p l.length=some (Bm l)∧((∃ a,p=some a)∨l=[])
theorem xh {σ:Aa} {p:Option Addr} {n:Nat} {row:List Value} (τ:Aa) (h:Dq σ 1 p n=some row):Dq (σ++τ) 1 p n=some row:=by
 cases p with
 | none=>exact h
 | some a=>
   simp only[Dq,Z1] at h ⊢
   cases e:σ[a.block]? with
   | none=>rw[e] at h; cases h
   | some o=>rw[List.getElem?_append_left (Al e),e]; rw[e] at h; exact h
theorem ik (k:Nat) (p:Option Addr) (c:Nat) (l:List Int) (hl:l.length≤100000) (h:Holds σ p l):
  ∃ s τ,Be (k+1) (p,l.length,c) σ=some (.slice s.1 s.2.1 s.2.2,σ++τ)∧B6 (σ++τ) s l ∧ ∀ b ∈ hs s,σ.length≤b:=by
 rw[Ru,KO]
 simp only[sw,Ad,Af,Ae]
 cases p with
 | none=>
   have hl0:l=[]:=by
    rcases h.2 with ⟨a,ha⟩ | h
    ·cases ha
    ·exact h
   subst hl0
   refine ⟨(none,0,0),[], ?_,.inl (EL.nil _ _ _),fun b hb=>by simp[hs] at hb⟩
   rw[show ([]:List Int).length=0 from rfl]
   rw[show ∀ n c,NW P HD (.slice none n c) (.slice none 0 0)=some true from fun n c=>by kernel_rfl]
   simp only[Option.bind_some,cond_true,List.append_nil]
 | some a=>
   have hf:=xh [A6.cells [] As true] h.1
   obtain ⟨s',τ,e,h1,h2⟩:=kU sz3 by3 zz3 rfl rfl (by decide) (by decide) (by decide) σ (some a) l.length c hl (Bm l) (by rw[EH,Nat.mul_one]) hf
   simp only[eqW,Option.bind_some,cond_false,AM,e]
   refine ⟨s',[A6.cells [] As true]++τ,by rw[← List.append_assoc], ?_, ?_⟩
   ·by_cases h0:l.length=0
    ·have hl0:l=[]:=List.length_eq_zero_iff.1 h0
     refine .inr ⟨hl0,σ.length,[],As,true,h2 h0, ?_⟩
     rw[List.getElem?_append_right (Nat.le_refl _)]; simp
    ·obtain ⟨q1,q2⟩:=h1 (by omega)
     refine .inl (.inr ⟨σ.length+1,q1,Nat.zero_le _,by rw[EH,Nat.mul_one], ?_⟩)
     rw[← List.append_assoc]; exact q2
   ·intro b hb
    by_cases h0:l.length=0
    ·rw[h2 h0] at hb; simp[hs] at hb; omega
    ·rw[(h1 (by omega)).1] at hb; simp[hs] at hb; omega
theorem B6.holds {s:Ci} {l:List Int} (h:B6 σ s l):Holds σ s.1 l:=by
 refine ⟨h.first, ?_⟩
 rcases h with (⟨h,_,rfl⟩ | ⟨b,rfl,_⟩) | ⟨rfl,b,cs,T,w,rfl,hc⟩
 ·exact .inr (List.length_eq_zero_iff.1 h)
 ·exact .inl ⟨_,rfl⟩
 ·exact .inr rfl
theorem B6.tail {s:Ci} {a:Int} {l:List Int} (h:B6 σ s (a::l)):∃ p c,JF As 1 (s.1,(a::l).length,(a::l).length) (some (.int .i64 (1:Int))) none none σ=some (p,l.length,c)∧Holds σ p l:=by
 rcases h with h | ⟨h,_⟩
 ·obtain ⟨p,c,e1,e2⟩:=pE h 1 (a::l).length (by simp) (Nat.le_refl _) (some (.int .i64 ((1:Nat):Int))) none (.inl rfl) (.inr ⟨rfl,rfl⟩)
  have hn:(a::l).length-1=l.length:=by simp
  rw[hn] at e1 e2
  refine ⟨p,c,e1, ?_, ?_⟩
  ·rw[e2]
   simp only[Bm,List.map_cons,Nat.mul_one,Nat.one_mul,List.drop_succ_cons,List.drop_zero]
   rw[List.take_of_length_le (by simp)]
  ·cases p with
   | some a=>exact .inl ⟨_,rfl⟩
   | none=>
     right
     cases l with
     | nil=>rfl
     | cons b l=>
       exfalso
       simp only[Dq,List.length_cons] at e2
       rw[if_neg (by omega)] at e2
       cases e2
 ·cases h
theorem kL (k:Nat) {s:Ci} {l:List Int} (h:B6 σ s l) (hl:l.length≤1000000) (v:Int):∀ (n x f:Nat),x+n=l.length→n<f →
  ∃ o,Dh k f s.1 l.length l.length v ((l.length:Nat):Int) (x:Int) σ=some o∧(v ∈ l.drop x → ∃ y:Nat,o=(.ret,[.int .i64 (y:Int)],σ))∧(v ∉ l.drop x→o=(.exit 0,[],σ))
 | n,x,0,hx,hf=>by omega
 | 0,x,f+1,hx,hf=>by
   rw[GI,EZ]
   simp only[sw,Ad,Af,Ae,decide_eq_false (show ¬ (x:Int)<((l.length:Nat):Int) by omega),cond_false]
   refine ⟨_,rfl,fun hm=>?_,fun _=>rfl⟩
   rw[List.drop_eq_nil_of_le (by omega)] at hm
   cases hm
 | n+1,x,f+1,hx,hf=>by
   obtain ⟨b,e,l1,_⟩:=h.ld (x:=x) (by omega)
   have qx:(0≤(x:Int)∧(x:Int)<((l.length:Nat):Int))=True:=eq_true (by omega)
   have w1:Ce ((x:Int)+1)=((x+1:Nat):Int):=Ak (by unfold AU; omega)
   obtain ⟨o,e2,h1,h2⟩:=kL k h hl v n (x+1) f (by omega) (by omega)
   have hd:l.drop x=l.getD x 0::l.drop (x+1):=by
    rw[List.drop_eq_getElem_cons (by omega),List.getD_eq_getElem?_getD,List.getElem?_eq_getElem (by omega)]; rfl
   rw[GI,EZ]
   simp only[sw,Ad,Af,Ae,decide_eq_true (show (x:Int)<((l.length:Nat):Int) by omega),cond_true,qx,if_true,e,Option.bind_some,Int.toNat_natCast,Nat.mul_one,Nat.zero_add,l1,w1]
   by_cases q:v=l.getD x 0
   ·rw[show (v == l.getD x 0)=true from beq_iff_eq.2 q]
    simp only[cond_true]
    exact ⟨_,rfl,fun _=>⟨x,rfl⟩,fun hm=>absurd (by rw[hd,q]; exact List.mem_cons_self) hm⟩
   ·rw[show (v == l.getD x 0)=false from beq_eq_false_iff_ne.2 q]
    rw[e] at e2
    simp only[cond_false,e2]
    refine ⟨o,rfl,fun hm=>h1 ?_,fun hm=>h2 fun hn=>hm (by rw[hd]; exact List.mem_cons_of_mem _ hn)⟩
    rw[hd] at hm
    rcases List.mem_cons.1 hm with hm | hm
    ·exact absurd hm q
    ·exact hm
theorem kK (k:Nat) {s:Ci} {l:List Int} (h:B6 σ s l) (hl:l.length≤1000000) (hk:l.length<k) (v:Int):Bl (k+2) (s.1,s.2.1,s.2.2) v σ=some (.bool (decide (v ∈ l)),σ):=by
 obtain ⟨o,e,h1,h2⟩:=kL (k) h hl v l.length 0 k (by omega) hk
 rw[show ((0:Nat):Int)=0 from rfl] at e
 rw[JA,Gm,L7,HY]
 have hf:=h.form
 have e1:s.2.1=l.length:=by rw[hf]
 have e2:s.2.2=l.length:=by rw[hf]
 simp only[sw,Ad,Af,Ae,e1,e2,e,Option.bind_some]
 rw[List.drop_zero] at h1 h2
 by_cases hm:v ∈ l
 ·obtain ⟨y,rfl⟩:=h1 hm
  rw[decide_eq_true hm]
  simp only[reduceCtorEq,if_false,if_true,FQ,Option.bind_some,Aj]
  rw[decide_eq_true (show (y:Int)≥0 by omega)]
 ·rw[h2 hm,decide_eq_false hm]
  simp only[if_true,Option.bind_some,Aj]
  rfl
theorem tR (k:Nat) (hk:10≤k) {e:Nat} (h0:0<e) (h1:e≤4096) (σ:Aa):∃ τ tb wb,J9 (k+4) (e:Int) 2 σ=some (.tuple #[.pointer (some ⟨tb,0,none⟩),.int .i64 0],σ++τ) ∧
  DT (σ++τ) tb wb e 2 (List.replicate ((e*2+63)/64) 0#64)∧σ.length≤tb∧σ.length≤wb∧tb≠wb:=by
 obtain ⟨μ,hμ⟩:∃ μ,σ++[A6.cells [Value.int .i64 1,.int .i64 2,.int .i64 4,.int .i64 8] As true]=μ:=⟨_,rfl⟩
 have hl:μ.length=σ.length+1:=by rw[← hμ]; simp
 have hA:B6 μ (some ⟨σ.length,0,none⟩,4,4) [1,2,4,8]:=.inl (.inr ⟨σ.length,rfl,by decide,rfl,by rw[← hμ]; simp[Bm]⟩)
 have hC:Bl (k+3) (some ⟨σ.length,0,none⟩,4,4) 2 μ=some (.bool true,μ):=kK (k+1) hA (by decide) (by simp; omega) 2
 rw[Xn,Va]
 simp only[sw,Ad,Af,Ae]
 simp only[show decide ((e:Int)<1)=false from decide_eq_false (by omega),cond_false,show decide ((e:Int)>4096)=false from decide_eq_false (by omega),Option.bind_some,AM,hμ,hC,Ar,Bool.not_true]
 have e1:Ce ((e:Int)*2)=((e*2:Nat):Int):=by rw[Ak (by unfold AU; omega)]; omega
 have e2:Ce (((e*2:Nat):Int)+64)=((e*2+64:Nat):Int):=Ak (by unfold AU; omega)
 have e3:Ce (((e*2+64:Nat):Int)-1)=((e*2+63:Nat):Int):=by rw[Ak (by unfold AU; omega)]; omega
 have e4:((e*2+63:Nat):Int).tdiv 64=(((e*2+63)/64:Nat):Int):=rfl
 have e5:Ce (((e*2+63)/64:Nat):Int)=(((e*2+63)/64:Nat):Int):=Ak (by unfold AU; omega)
 simp only[e1,e2,e3,e4,e5,show ((64:Int)=0)=False from by simp,if_false]
 rw[if_pos (by omega)]
 simp only[Int.toNat_natCast,yZ]
 refine ⟨[A6.cells [Value.int .i64 1,.int .i64 2,.int .i64 4,.int .i64 8] As true,.cells (rowOf (List.replicate ((e*2+63)/64) 0#64)) Bt true,.cells [.int .i64 (e:Int),.int .i64 2,.slice (some ⟨σ.length+1,0,none⟩) ((e*2+63)/64) ((e*2+63)/64)] Sy true],σ.length+2,σ.length+1, ?_, ?_,by omega,by omega,by omega⟩
 ·rw[← hμ]; simp
 ·refine ⟨?_, ?_,by simp,h0,h1,.inr (.inl rfl)⟩
  ·simp
  ·simp
theorem wA (k:Nat) {tb wb e w:Nat} {ws:List (BitVec 64)} (h:DT σ tb wb e w ws):CY (k+2) (some ⟨tb,0,none⟩) σ=some (.int .i64 (e:Int),σ):=by
 rw[PC,Jk]
 simp only[sw,Ad,Af,Ae,iN k h,Option.bind_some,Ar,Bool.not_true,cond_false,Nat.zero_add,Nat.add_zero,h.ldE]
theorem mS (k:Nat) {tb wb e:Nat} (hne:tb≠wb):∀ (n x f:Nat) (σ:Aa) (ws:List (BitVec 64)),DT σ tb wb e 2 ws→x+n=e→n<f →
  ∃ σ',Dz (k+3) f (some ⟨tb,0,none⟩) (0:Int) (0:Int) (e:Int) (x:Int) σ=some (.exit 0,[],σ')∧DT σ' tb wb e 2 (kZ ws n x)∧Mv [wb] [wb] σ σ'
 | n,x,0,σ,ws,h,hx,hf=>by omega
 | 0,x,f+1,σ,ws,h,hx,hf=>by
   rw[Kk,GO]
   simp only[sw,Ad,Af,Ae,decide_eq_false (show ¬ (x:Int)<(e:Int) by omega),cond_false]
   exact ⟨σ,rfl,h,Mv.refl _ _⟩
 | n+1,x,f+1,σ,ws,h,hx,hf=>by
   have ht:=h.top
   have w0:Ce (0+(x:Int))=(x:Int):=by rw[Ak (by unfold AU; omega)]; omega
   have w1:Ce ((x:Int)+1)=((x+1:Nat):Int):=Ak (by unfold AU; omega)
   have hp:=Ad4 (k+1) h (j:=x) (v:=0) (by omega)
   rw[show ((0:Nat):Int)=0 from rfl] at hp
   obtain ⟨σ',e',h',m'⟩:=mS k hne n (x+1) f _ _ (h.put hne x 0) (by omega) (by omega)
   rw[Kk,GO]
   simp only[sw,Ad,Af,Ae,decide_eq_true (show (x:Int)<(e:Int) by omega),cond_true,w0,w1,hp,Option.bind_some,Mt,e']
   exact ⟨σ',rfl,h',(Mv.set σ _ (List.mem_singleton.2 rfl)).trans m'⟩
theorem Ae3 (k:Nat) (hk:5000≤k) {tb wb e:Nat} (hne:tb≠wb) {ws:List (BitVec 64)} (h:DT σ tb wb e 2 ws):
  ∃ σ',DY (k+9) (some ⟨tb,0,none⟩) (0:Int) (e:Int) (0:Int) σ=some (.int .i64 0,σ')∧DT σ' tb wb e 2 (kZ ws e 0)∧Mv [tb,wb] [tb,wb] σ σ':=by
 have hp:=h.pos
 have ht:=h.top
 have h1:=h.app [.cells [.int .i64 (0:Int)] As true]
 obtain ⟨τ,hc⟩:=uQ k h1 (0:Int) (0:Int) σ.length (by simp[Df,Gg,Md]) (by simp)
 have h2:=h1.app τ
 obtain ⟨σ',e',h',m'⟩:=mS (k+5) hne e 0 (k+8) _ _ h2 (by omega) (by omega)
 rw[show ((0:Nat):Int)=0 from rfl] at e'
 have w0:Ce ((e:Int)-0)=(e:Int):=by rw[Ak (by unfold AU; omega)]; omega
 refine ⟨σ', ?_,h',(((Mv.app [wb] σ _).trans (Mv.app [wb] _ τ)).trans m').wide (fun q hq=>List.mem_cons_of_mem _ hq) fun q hq=>.inl hq⟩
 rw[SN,LP]
 simp only[sw,Ad,Af,Ae,AM]
 rw[hc,if_pos (by have:=Nat.two_pow_pos 2; omega)]
 simp only[Option.bind_some,Aj,bne_self_eq_false,cond_false,decide_eq_false (show ¬ (e:Int)<1 by omega),Nat.zero_add,Nat.add_zero,h2.ldE,w0,decide_eq_false (show ¬ (e:Int)>(e:Int) by omega),e',if_true]
end Go.Proofs.YtphkfdnecpacmaaGreat
end
