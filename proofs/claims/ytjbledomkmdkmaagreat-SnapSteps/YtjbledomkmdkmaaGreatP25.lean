/- Looks at a heap: Blocks, State, Space, Shape, Ref, Data, Pinned, Forward; slices that grow.; Block 0; used blocks; objects of a used block; Lines.; Sl -/
import Derived.Test.YtjbledomkmdkmaaGreatP24
set_option linter.unusedVariables false
set_option linter.unusedSimpArgs false
set_option linter.unusedSectionVars false
section
namespace Go.Proofs.YtjbledomkmdkmaaGreat
open Go Go.AX
noncomputable local instance qCS:A9:=Aw
local instance nCS:Kn:=⟨true⟩
variable {σ:Aa} {i:DD} {m:HM}
theorem Pt (k:Nat) (h:An σ i m):Av (k+2) (AV i) σ=some (.int .i64 ((m.bls.length:Nat):Int),σ):=by
 rw[Rt,KI]
 try simp only[sw,Ad,Af,Ae]
 rw[Lt _ h]
 simp only[Option.bind_some,Ar,Bool.not_true,cond_false,Nat.zero_add,Nat.add_zero,h.K2]
theorem Acy (k:Nat) (h:An σ i m) {b:Nat} (hb:b<m.bls.length):AY (k+3) (AV i) (b:Int) σ=some (.int .i64 (m.bls.getD b (0,0)).1,σ):=by
 rw[Mt,Jj]
 try simp only[sw,Ad,Af,Ae]
 have q1:decide ((b:Int)<0)=false:=decide_eq_false (by omega)
 have q2:decide ((b:Int)≥((m.bls.length:Nat):Int))=false:=decide_eq_false (by omega)
 simp only[q1,cond_false,Pt _ h,Option.bind_some,Aj,q2,Nat.zero_add,Nat.add_zero,h.K2]
 rw[if_pos (by omega)]
 simp only[Option.bind_some,Int.toNat_natCast,Nat.zero_add,(h.lO hb).1]
theorem Acw (k:Nat) (h:An σ i m) {b:Nat} (hb:b<m.bls.length):BO (k+3) (AV i) (b:Int) σ=some (.int .i64 (m.bls.getD b (0,0)).2,σ):=by
 rw[Ms,Ji]
 try simp only[sw,Ad,Af,Ae]
 have q1:decide ((b:Int)<0)=false:=decide_eq_false (by omega)
 have q2:decide ((b:Int)≥((m.bls.length:Nat):Int))=false:=decide_eq_false (by omega)
 simp only[q1,cond_false,Pt _ h,Option.bind_some,Aj,q2,Nat.zero_add,Nat.add_zero,h.K2]
 rw[if_pos (by omega)]
 simp only[Option.bind_some,Int.toNat_natCast,Nat.zero_add,(h.lO hb).2]
def tP (m:HM) (a:Int):Bool:=Ea m a && decide (Ec 1 m.pnw (a.toNat/2)=1)
theorem zP (k:Nat) (h:An σ i m) (a:Int) (ha:AU a):G0 (k+5) (AV i) a σ=some (.bool (tP m a),σ):=by
 have ht:=h.nt
 rw[aK,OO]
 try simp only[sw,Ad,Af,Ae]
 rw[fZ _ h a ha]
 simp only[Option.bind_some,Ar]
 unfold tP
 cases hh:Ea m a with
 | false=>simp only[cond_false,Option.bind_some,Bool.false_and]
 | true=>
   obtain ⟨j,rfl,hs⟩:=Ek hh
   have hj:=hs.1
   have t1:((2*j:Nat):Int).tdiv 2=(j:Int):=by
    rw[show ((2*j:Nat):Int).tdiv 2=(((2*j)/2:Nat):Int) from rfl]; omega
   have e1:Cf (j:Int)=(j:Int):=Ak (by unfold AU; omega)
   have hG:CQ (k+4) (some ⟨i.pn,0,none⟩) (j:Int) σ=some (.int .i64 (Ec 1 m.pnw j:Int),σ):=by
    have:=wQ (k+1) h.pn (j:Int)
    rw[if_pos (by omega),Int.toNat_natCast] at this
    exact this
   have hb:(((Ec 1 m.pnw j:Nat):Int) == 1)=decide (Ec 1 m.pnw j=1):=by
    by_cases hq:Ec 1 m.pnw j=1
    ·simp[hq]
    ·have:¬ ((Ec 1 m.pnw j:Nat):Int)=1:=by omega
     simp[hq,this]
   simp only[cond_true,Nat.zero_add,h.uu,Option.bind_some,show ((2:Int)=0)=False from by simp,if_false,t1,e1,hG,Aj,Bool.true_and,show ((2*j:Nat):Int).toNat/2=j from by omega,hb]
def Fm (m:HM) (j:Nat):Int:=(m.wds.getD (2*j+1) 0).tdiv 4096
theorem Acv (k:Nat) (h:An σ i m) {j:Nat} (hs:Start m j):∃ τ,AE (k+6) (AV i) ((2*j:Nat):Int) σ=some (.tuple #[.agg #[.int .i64 (A5 m j),.int .i64 (BN m j),.int .i64 (Fm m j)],.int .i64 0],σ++τ):=by
 have hw:=h.wl
 have ht:=h.nt
 have hj:=hs.1
 rw[Mr,Jh]
 try simp only[sw,Ad,Af,Ae]
 simp only[AM]
 have h1:=h.app [A6.cells [Value.int .i64 0,.int .i64 0,.int .i64 0] Ag true]
 obtain ⟨τ,hsh⟩:=pN (k+4) (m.wds.getD (2*j+1) 0) (h.wi _) (σ++[A6.cells [Value.int .i64 0,.int .i64 0,.int .i64 0] Ag true])
 have e1:Cf (((2*j:Nat):Int)+1)=((2*j+1:Nat):Int):=Ak (by unfold AU; omega)
 simp only[UQ _ h1 _ (show AU ((2*j:Nat):Int) by unfold AU; omega),dF hs,if_true,Option.bind_some,Aj,bne_self_eq_false,cond_false,Nat.zero_add,h1.GJ,e1,Int.toNat_natCast,Nat.mul_one]
 rw[if_pos (by omega)]
 simp only[h1.ldW (show 2*j+1<m.wds.length by omega),Option.bind_some,hsh,Lm]
 rw[show ((m.wds.getD (2*j+1) 0).tmod 4096).tdiv 16=BN m j from rfl,show (m.wds.getD (2*j+1) 0).tmod 16=A5 m j from rfl,show (m.wds.getD (2*j+1) 0).tdiv 4096=Fm m j from rfl]
 refine ⟨[A6.cells [.int .i64 (A5 m j),.int .i64 (BN m j),.int .i64 (Fm m j)] Ag true]++τ, ?_⟩
 have e2:∀ x y z u v w:Value,XJ (σ++[A6.cells [x,y,z] Ag true]++τ) σ.length 0 [u,v,w]=some (σ++[A6.cells [u,v,w] Ag true]++τ):=by
  intro x y z u v w; simp[XJ,AL]
 have e3:∀ u v w:Value,ZA (σ++[A6.cells [u,v,w] Ag true]++τ) σ.length 0 3=some [u,v,w]:=by
  intro u v w; simp[ZA]
 rw[← List.append_assoc]
 simp only[e2,Option.bind_some,e3,Og]
theorem oG (h:Inv m) {j x:Nat} (hs:Start m j) (hx:(x:Int)<A5 m j):DG m ((2*j:Nat):Int) (x:Int) false=(((2*j+2+x:Nat):Int),0):=by
 unfold DG
 rw[dF hs]
 simp only[if_true,show ((2*j:Nat):Int).toNat/2=j from by omega,Bool.false_eq_true,if_false]
 rw[if_pos (by omega)]
 congr 1
theorem vn (h:Inv m) {j x:Nat} (hs:Start m j) (hx:(x:Int)<BN m j):DG m ((2*j:Nat):Int) (x:Int) true=(((2*j+2+(A5 m j).toNat+x:Nat):Int),0):=by
 have:=h.size hs
 unfold DG
 rw[dF hs]
 simp only[if_true,show ((2*j:Nat):Int).toNat/2=j from by omega]
 rw[if_pos (by omega)]
 congr 1
 omega
theorem Wl (m:HM) (lo n:Nat):(FP m lo n).length≤n:=by
 have:(FP m lo n).length≤(List.range' lo n).length:=List.length_filter_le _ _
 simpa using this
structure Qd (σ:Aa) (s:Ce) (σ':Aa) (s':Ce):Prop where
 len:σ.length≤σ'.length
 same:∀ q,q<σ.length→(∀ a,s.1=some a→a.block≠q)→σ'[q]?=σ[q]?
 new:s'=s ∨ ∀ a,s'.1=some a→σ.length≤a.block
theorem Qd.refl (σ:Aa) (s:Ce):Qd σ s σ s:=⟨Nat.le_refl _,fun _ _ _=>rfl,.inl rfl⟩
theorem Qd.app (σ:Aa) (s:Ce) (τ:Aa):Qd σ s (σ++τ) s:=⟨by simp,fun q hq _=>List.getElem?_append_left hq,.inl rfl⟩
theorem Qd.trans {a b c:Aa} {s t u:Ce} (h:Qd a s b t) (g:Qd b t c u):Qd a s c u:=by
 refine ⟨Nat.le_trans h.len g.len,fun q hq hn=>?_, ?_⟩
 ·refine (g.same q (Nat.lt_of_lt_of_le hq h.len) fun x hx=>?_).trans (h.same q hq hn)
  rcases h.new with rfl | hw
  ·exact hn x hx
  ·have:=hw x hx; omega
 ·rcases g.new with rfl | hw
  ·exact h.new
  ·exact .inr fun x hx=>Nat.le_trans h.len (hw x hx)
def Off (i:DD) (s:Ce):Prop:=∀ a,s.1=some a→a.block ∉ i.l
theorem Qd.heap {σ':Aa} {s s':Ce} (g:Qd σ s σ' s') (h:An σ i m) (ho:Off i s):An σ' i m∧Off i s':=by
 refine ⟨h.AG fun j hj=>g.same j (h.lt j hj) fun a ha e=>ho a ha (e ▸ hj), ?_⟩
 rcases g.new with rfl | hw
 ·exact ho
 ·intro a ha hm
  have:=hw a ha
  have:=h.lt _ hm
  omega
theorem Qd.other {σ':Aa} {s s':Ce} (g:Qd σ s σ' s') {q:Nat} {o:A6} (h:σ[q]?=some o) (hs:∀ a,s.1=some a→a.block≠q):σ'[q]?=some o ∧ ∀ a,s'.1=some a→a.block≠q:=by
 have hq:=Al h
 refine ⟨(g.same q hq hs).trans h, ?_⟩
 rcases g.new with rfl | hw
 ·exact hs
 ·intro a ha e
  have:=hw a ha
  omega
def Sp (m:HM) (a n:Nat):List Int:=(List.range' a n).map fun x=>m.wds.getD x 0
theorem YM (m:HM) (a n:Nat):Sp m a (n+1)=m.wds.getD a 0::Sp m (a+1) n:=by simp[Sp,List.range'_succ]
theorem HR (m:HM) (a n:Nat):(Sp m a n).length=n:=by simp[Sp]
theorem Ff.up {lo:Nat} {s:Ce} {l:List Int} (h:Ff 0 σ s l) (hn:∀ a,s.1=some a→lo≤a.block):Ff lo σ s l:=by
 rcases h with h | ⟨b,_,rfl,h⟩
 ·exact .inl h
 ·exact .inr ⟨b,hn _ rfl,rfl,h⟩
theorem Qd.behind {σ σ':Aa} {τ:Aa} {s s':Ce} (g:Qd (σ++τ) s σ' s') (hs:∀ a,s.1=some a→σ.length≤a.block):(∃ τ',σ'=σ++τ') ∧ ∀ a,s'.1=some a→σ.length≤a.block:=by
 refine ⟨⟨σ'.drop σ.length, ?_⟩, ?_⟩
 ·have hlen:=g.len
  simp at hlen
  apply List.ext_getElem?
  intro q
  by_cases hq:q<σ.length
  ·rw[List.getElem?_append_left hq,g.same q (by simp; omega) (fun a ha e=>by have:=hs a ha; omega),List.getElem?_append_left hq]
  ·rw[List.getElem?_append_right (by omega),List.getElem?_drop]
   congr 1; omega
 ·rcases g.new with rfl | hw
  ·exact hs
  ·intro a ha
   have:=hw a ha
   simp at this; omega
end Go.Proofs.YtjbledomkmdkmaaGreat
end
section
namespace Go.Proofs.YtjbledomkmdkmaaGreat
open Go Go.AX
noncomputable local instance qLB:A9:=Aw
local instance nLB:Kn:=⟨true⟩
variable {σ:Aa} {i:DD} {m:HM}
def B0 (m:HM):Prop:=(m.bls.getD 0 (0,0)).1=0
def BK (m:HM) (r:Int × HM):Prop:=(r.2.bls.getD 0 (0,0)).1=(m.bls.getD 0 (0,0)).1
theorem JK {c:Prop} [Decidable c] {r r':Int × HM} (h:c→BK m r) (h':¬ c→BK m r'):BK m (if c then r else r'):=by
 split
 ·exact h ‹_›
 ·exact h' ‹_›
theorem Agh {r:Int × HM} (h:r.2.bls=m.bls):BK m r:=by unfold BK; rw[h]
theorem jT (m:HM) (b c x y x' y':Int):BK m (De m b c x y x' y'):=by
 unfold De
 refine JK (fun h1=>JK (fun _=>?_) fun _=>rfl) fun _=>rfl
 unfold BK
 rw[List.getD_eq_getElem?_getD,List.getElem?_set,if_neg (by omega),← List.getD_eq_getElem?_getD,o6 _ _ _ _ _ _ (by omega)]
theorem Ai4 (m:HM) (x:ml):BK m (doR m x):=by
 unfold doR
 refine JK (fun _=>jT _ _ _ _ _ _ _) fun _=>JK (fun _=>jT _ _ _ _ _ _ _) fun _=>JK (fun _=>?_) fun _=>JK (fun _=>?_) fun _=>JK (fun _=>?_) fun _=>JK (fun _=>?_) fun _=>JK (fun _=>?_) fun _=>JK (fun _=>?_) fun _=>JK (fun _=>?_) fun _=>JK (fun _=>?_) fun _=>JK (fun _=>?_) fun _=>JK (fun _=>?_) fun _=>JK (fun _=>rfl) fun _=>rfl
 ·unfold DJ
  refine JK (fun hh=>JK (fun _=>?_) fun _=>rfl) fun _=>rfl
  obtain ⟨n,e,h1,_⟩:=oS hh
  unfold BK
  rw[Y3,if_neg (by omega)]
 ·unfold Aey
  exact JK (fun hh=>sI _ _ _ _ _) fun _=>rfl
 ·apply Agh
  unfold Hc
  split
  ·split <;> rfl
  ·rfl
 ·unfold Kv; exact JK (fun _=>rfl) fun _=>rfl
 ·unfold Ah8; exact JK (fun _=>JK (fun _=>rfl) fun _=>rfl) fun _=>rfl
 ·unfold EK; exact JK (fun _=>JK (fun _=>rfl) fun _=>rfl) fun _=>rfl
 ·unfold wy; exact JK (fun _=>rfl) fun _=>rfl
 ·unfold Aib; refine JK (fun _=>?_) fun _=>rfl
  split
  ·rfl
  ·exact JK (fun _=>rfl) fun _=>rfl
 ·unfold QD; exact JK (fun _=>rfl) fun _=>rfl
 ·unfold QD; exact JK (fun _=>rfl) fun _=>rfl
theorem B0.do (h:B0 m) (x:ml):B0 (doR m x).2:=(Ai4 m x).trans h
theorem B0.run:∀ (l:List ml) (m:HM),B0 m→B0 (runM m l)
 | [],m,h=>h
 | x::l,m,h=>B0.run l _ (h.do x)
theorem B0.new (n:Nat):B0 (My n):=by
 unfold B0 My
 simp only[List.getD_eq_getElem?_getD,List.getElem?_replicate]
 split <;> rfl
theorem sJ (a b:Nat):((a:Nat):Int).tdiv ((b:Nat):Int)=((a/b:Nat):Int):=rfl
theorem fX (a b:Nat):((a:Nat):Int).tmod ((b:Nat):Int)=((a % b:Nat):Int):=rfl
theorem dh {α:Type} {l:List α} {q:Nat} {x:α} (h:l[q]?=some x):l.set q x=l:=by
 apply List.ext_getElem?
 intro p
 rw[List.getElem?_set]
 split
 ·rename_i e
  subst e
  rw[if_pos (Al h),h]
 ·rfl
theorem Ff.ge {lo:Nat} {s:Ce} {l:List Int} (h:Ff lo σ s l):∀ a,s.1=some a→lo≤a.block∧a.block<σ.length:=by
 rcases h with ⟨_,rfl⟩ | ⟨b,h1,rfl,_,h2⟩
 ·intro a e; cases e
 ·intro a e; cases e; exact ⟨h1,Al h2⟩
end Go.Proofs.YtjbledomkmdkmaaGreat
end
section
namespace Go.Proofs.YtjbledomkmdkmaaGreat
open Go Go.AX
noncomputable local instance qCE:A9:=Aw
local instance nCE:Kn:=⟨true⟩
variable {σ:Aa} {i:DD} {m:HM}
def EM (E:TypeId) (s:Nat) (σ:Aa) (sl:Ce) (n:Nat) (row:List Value):Prop:=
 (n=0∧row=[]∧sl=(none,0,0)) ∨ ∃ b,sl=(some ⟨b,0,none⟩,n,n)∧0≤n∧row.length=n*s∧σ[b]?=some (.cells row E true)
theorem EM.len {E:TypeId} {s n:Nat} {sl:Ce} {row:List Value} (h:EM E s σ sl n row):sl.2.1=n:=by
 rcases h with ⟨rfl,_,rfl⟩ | ⟨b,rfl,_⟩ <;> rfl
theorem EM.form {E:TypeId} {s n:Nat} {sl:Ce} {row:List Value} (h:EM E s σ sl n row):sl=(sl.1,n,n):=by
 rcases h with ⟨rfl,_,rfl⟩ | ⟨b,rfl,_⟩ <;> rfl
theorem EM.nil (E:TypeId) (s:Nat) (σ:Aa):EM E s σ (none,0,0) 0 []:=.inl ⟨rfl,rfl,rfl⟩
theorem EM.AG {E:TypeId} {s n:Nat} {σ':Aa} {sl:Ce} {row:List Value} (h:EM E s σ sl n row) (hs:∀ a,sl.1=some a→σ'[a.block]?=σ[a.block]?):EM E s σ' sl n row:=by
 rcases h with h | ⟨b,rfl,h1,h2,h3⟩
 ·exact .inl h
 ·exact .inr ⟨b,rfl,h1,h2,by rw[hs _ rfl]; exact h3⟩
theorem EM.lt {E:TypeId} {s n:Nat} {sl:Ce} {row:List Value} (h:EM E s σ sl n row):∀ a,sl.1=some a→a.block<σ.length:=by
 rcases h with ⟨_,_,rfl⟩ | ⟨b,rfl,h1,h2,h3⟩
 ·intro a e; cases e
 ·intro a e; cases e; exact Al h3
theorem EM.app {E:TypeId} {s n:Nat} {sl:Ce} {row:List Value} (h:EM E s σ sl n row) (τ:Aa):EM E s (σ++τ) sl n row:=
 h.AG fun a ha=>List.getElem?_append_left (h.lt a ha)
theorem Ff.sl {lo:Nat} {s:Ce} {l:List Int} (h:Ff lo σ s l):EM As 1 σ s l.length (Bm l):=by
 rcases h with ⟨rfl,rfl⟩ | ⟨b,h1,rfl,h3,h4⟩
 ·exact .inl ⟨rfl,rfl,rfl⟩
 ·exact .inr ⟨b,rfl,Nat.zero_le _,by rw[EI,Nat.mul_one],h4⟩
theorem oh {E:TypeId} {s by_:Nat} {z:Value} (hs:IW P E=some s) (hb:bytesOf P E=some by_) (hz:FT P E=some z) (hz1:Hb z=false) (hz2:z.cells.size=s) (hs0:0<s) (hb0:0<by_) (hb1:by_≤1000)
  (σ:Aa) (sl:Ce) (n:Nat) (row:List Value) (src:Option Addr) (n' c:Nat) (row':List Value) (hn:n+n'≤1000000) (hn0:0<n') (hr:row'.length=n'*s) (hsl:EM E s σ sl n row) (hx:Ds σ s src n'=some row'):
  ∃ s' σ',B9 P E sl (src,n',c) σ=some (s',σ')∧Qd σ sl σ' s'∧EM E s σ' s' (n+n') (row++row'):=by
 unfold B9 Qf
 simp only[hs,hb,hz,Option.bind_some,hx]
 have h1:(¬ (Hb z=false∧some s=some z.cells.size∧0<z.cells.size))=False:=by
  rw[hz1,hz2]; simp[hs0]
 simp only[h1,if_false]
 have hm:(n+n')*by_≤1000000*1000:=Nat.mul_le_mul hn hb1
 have r:QG (n+n') by_∧0<by_:=⟨⟨by omega,by omega⟩,hb0⟩
 rcases hsl with ⟨rfl,rfl,rfl⟩ | ⟨b,rfl,hp,hl,hcell⟩
 ·simp only[show ¬ (0+n'≤0) from by omega,if_false,r,and_self,if_true,Is,cond_true,slK]
  refine ⟨_,_,rfl,⟨by simp,fun q hq _=>List.getElem?_append_left hq,.inr fun a ha=>by cases ha; exact Nat.le_refl _⟩,.inr ⟨σ.length,by simp,by omega,by simpa using hr,by simp⟩⟩
 ·have hb2:=Al hcell
  have e1:elemAt σ b=some E:=by simp[elemAt,hcell]
  have e2:ZA σ b 0 (n*s)=some row:=by
   simp only[ZA,hcell,hl,Nat.zero_add,Nat.le_refl,if_true,List.drop_zero]
   rw[List.take_of_length_le (Nat.le_of_eq hl)]
  have e3:Jg σ b=true:=by simp[Jg,hcell]
  simp only[show ¬ (n+n'≤n) from by omega,if_false,r,and_self,if_true,Is,Option.isSome_none,cond_false,Option.bind_some,e1,e2,e3,cond_true,slK]
  refine ⟨_,_,rfl,⟨by simp,fun q hq hn=>?_,.inr fun a ha=>?_⟩,.inr ⟨σ.length,rfl,by omega,by rw[List.length_append,hl,hr,Nat.add_mul],by simp⟩⟩
  ·rw[List.getElem?_append_left (by simpa using hq),List.getElem?_set_ne (hn _ rfl)]
  ·cases ha; exact Nat.le_refl _
theorem cN {E:TypeId} {s by_:Nat} {z:Value} (hs:IW P E=some s) (hb:bytesOf P E=some by_) (hz:FT P E=some z) (hz1:Hb z=false) (hz2:z.cells.size=s) (hs0:0<s) (hb0:0<by_) (hb1:by_≤1000)
  (σ:Aa) (sl:Ce) (n:Nat) (row:List Value) (n' c:Nat) (row':List Value) (T:TypeId) (hn:n+n'≤1000000) (hn0:0<n') (hr:row'.length=n'*s) (hsl:EM E s σ sl n row):
  ∃ s' σ',B9 P E sl (some ⟨σ.length,0,none⟩,n',c) (σ++[.cells row' T true])=some (s',σ')∧Qd σ sl σ' s'∧EM E s σ' s' (n+n') (row++row'):=by
 obtain ⟨s',σ',e,g,h⟩:=oh hs hb hz hz1 hz2 hs0 hb0 hb1 (σ++[.cells row' T true]) sl n row (some ⟨σ.length,0,none⟩) n' c row' hn hn0 hr (hsl.app _) (by
  simp only[Ds,ZA,List.getElem?_concat_length,hr,Nat.zero_add,Nat.le_refl,if_true,List.drop_zero]
  rw[List.take_of_length_le (Nat.le_of_eq hr)])
 exact ⟨s',σ',e,(Qd.app _ _ _).trans g,h⟩
theorem ints_at {lo:Nat} {s:Ce} {l:List Int} (h:Ff lo σ s l) {x:Nat} (hx:x<l.length):∃ b,s=(some ⟨b,0,none⟩,l.length,l.length)∧lo≤b∧σ[b]?=some (.cells (Bm l) As true)∧Dg .i64 σ b x=some (l.getD x 0):=by
 rcases h with ⟨he,_⟩ | ⟨b,h1,h2,h3,h4⟩
 ·rw[he] at hx; simp at hx
 ·refine ⟨b,h2,h1,h4, ?_⟩
  have h':Ff lo σ (some ⟨b,0,none⟩,l.length,l.length) l:=.inr ⟨b,h1,rfl,h3,h4⟩
  exact h'.ld hx
theorem Aee {b x:Nat} {l:List Int} {T:TypeId} {rw':Bool} (h:σ[b]?=some (.cells (Bm l) T rw')) (hx:x<l.length):Dg .i64 σ b x=some (l.getD x 0):=by
 simp only[Dg,Gi,h]
 simp[Bm,List.getElem?_map,List.getElem?_eq_getElem hx,List.getD_eq_getElem?_getD,Ml]
theorem yn {b x:Nat} {l:List Int} {T:TypeId} (h:σ[b]?=some (.cells (Bm l) T true)) (hx:x<l.length) (v:Int):K3 σ b x (.int .i64 v)=some (σ.set b (.cells (Bm (l.set x v)) T true)):=by
 simp only[K3,h]
 rw[if_pos (by rw[EI]; exact hx),rP]
theorem YY (hI:Inv m) {j:Nat} (hs:Start m j):m.wds.getD (2*j+1) 0=A5 m j+16*BN m j+4096*Fm m j∧0≤A5 m j∧A5 m j≤15∧0≤BN m j∧BN m j≤200∧0≤Fm m j∧Fm m j≤3∧words (A5 m j) (BN m j) (Fm m j)=(sz m j:Int):=by
 obtain ⟨r,d,k,hv,he⟩:=hI.good j hs
 obtain ⟨p1,p2,p3,_⟩:=PM hv
 have e1:A5 m j=r:=by unfold A5; rw[he,p1]
 have e2:BN m j=d:=by unfold BN; rw[he,p2]
 have e3:Fm m j=k:=by unfold Fm; rw[he,p3]
 have hw:words (A5 m j) (BN m j) (Fm m j)=(sz m j:Int):=by
  unfold sz
  rw[uk]; rfl
 rw[e1,e2,e3] at *
 refine ⟨he, ?_⟩
 simp[valid] at hv
 refine ⟨hv.1,hv.2.1,hv.2.2.1,hv.2.2.2.1,hv.2.2.2.2.1,hv.2.2.2.2.2.1,hw⟩
theorem dM {m m':HM}:∀ (n a a':Nat),(∀ q,q<n→m'.wds.getD (a'+q) 0=m.wds.getD (a+q) 0)→Sp m' a' n=Sp m a n
 | 0,a,a',h=>rfl
 | n+1,a,a',h=>by
   rw[YM,YM,dM n (a+1) (a'+1) (fun q hq=>by have:=h (q+1) (by omega); rw[show a'+1+q=a'+(q+1) from by omega,show a+1+q=a+(q+1) from by omega]; exact this)]
   have:=h 0 (by omega)
   rw[Nat.add_zero,Nat.add_zero] at this
   rw[this]
theorem db (m:HM):∀ (n a q:Nat),q<n→(Sp m a n)[q]?=some (m.wds.getD (a+q) 0)
 | 0,a,q,h=>by omega
 | n+1,a,0,h=>by rw[YM]; rfl
 | n+1,a,q+1,h=>by rw[YM,List.getElem?_cons_succ,db m n (a+1) q (by omega),show a+1+q=a+(q+1) from by omega]
end Go.Proofs.YtjbledomkmdkmaaGreat
end
section
namespace Go.Proofs.YtjbledomkmdkmaaGreat
open Go Go.AX
noncomputable local instance qCF:A9:=Aw
local instance nCF:Kn:=⟨true⟩
variable {σ:Aa} {i:DD} {m:HM}
def IU:List (Nat × Nat)→List Value
 | []=>[]
 | r::l=>.int .i64 (r.1:Int) :: .int .i64 (r.2:Int)::IU l
theorem gN:∀ l l',IU (l++l')=IU l++IU l'
 | [],l'=>rfl
 | r::l,l'=>by simp[IU,gN l l']
theorem pD:∀ (l:List (Nat × Nat)) (x:Nat),x<l.length→(IU l)[x*2]?=some (.int .i64 ((l.getD x (0,0)).1:Int))∧(IU l)[x*2+1]?=some (.int .i64 ((l.getD x (0,0)).2:Int))
 | [],x,h=>by simp at h
 | r::l,0,h=>by simp[IU]
 | r::l,x+1,h=>by
   have ih:=pD l x (by simpa using h)
   rw[show (x+1)*2=x*2+1+1 from by omega]
   simpa [IU,List.getElem?_cons_succ] using ih
def UD (a e:Nat):List (Nat × Nat):=if a<e then [(a,e-a)] else []
def Ku (m:HM):List Nat→Nat→List (Nat × Nat) × Nat
 | [],a=>([],a)
 | j::L,a=>(UD a (2*j)++(Ku m L (2*j+sz m j)).1,(Ku m L (2*j+sz m j)).2)
def zf (m:HM) (b:Nat):List (Nat × Nat):=(Ku m (FP m (32*b) 32) (64*b)).1++UD (Ku m (FP m (32*b) 32) (64*b)).2 (64*b+64)
theorem Aku:IW P BI=some 2:=by kernel_rfl
theorem Ake:bytesOf P BI=some 16:=by kernel_rfl
theorem Ak3:FT P BI=some (.agg #[.int .i64 0,.int .i64 0]):=by kernel_rfl
structure Acf (lo h5 h3:Nat) (σ:Aa) (a:Nat) (o:Ce) (R:List (Nat × Nat)):Prop where
 at_:σ[h5]?=some (.cells [.int .i64 (a:Int)] As true)
 out:σ[h3]?=some (.cells [.slice o.1 o.2.1 o.2.2] pQ true)
 sl:EM BI 2 σ o R.length (IU R)
 new:∀ a,o.1=some a→lo≤a.block
 l5:h5<lo
 l3:h3<lo
 ne:h5≠h3
 ll:lo≤σ.length
theorem Acf.AG {lo h5 h3 a:Nat} {σ σ':Aa} {o:Ce} {R:List (Nat × Nat)} (h:Acf lo h5 h3 σ a o R) (hs:∀ q,q<σ.length→σ'[q]?=σ[q]?) (hl:σ.length≤σ'.length):Acf lo h5 h3 σ' a o R:=
 ⟨(hs _ (Al h.at_)).trans h.at_,(hs _ (Al h.out)).trans h.out,h.sl.AG fun a ha=>hs _ (h.sl.lt a ha),h.new,h.l5,h.l3,h.ne,Nat.le_trans h.ll hl⟩
end Go.Proofs.YtjbledomkmdkmaaGreat
end
section
namespace Go.Proofs.YtjbledomkmdkmaaGreat
open Go Go.AX
variable {m:HM}
structure RO where
 addr:Int
 id:Int
 r:Int
 d:Int
 k:Int
 refs:List Int
 data:List Int
 lU:Bool
structure RM where
 bl:List (Int × Int)
 ob:List RO
 fw:List (Int × Int)
 born:Int
def RO.w (o:RO):Int:=words o.r o.d o.k
def Cs (m:HM) (j:Nat):RO:=⟨((2*j:Nat):Int),m.wds.getD (2*j) 0,A5 m j,BN m j,Fm m j,Sp m (2*j+2) (A5 m j).toNat,Sp m (2*j+2+(A5 m j).toNat) (BN m j).toNat,decide (Ec 1 m.pnw j=1)⟩
def FB (m:HM):List Nat:=FP m 0 (32*m.bls.length)
def GL (m:HM):List RO:=(FB m).map (Cs m)
structure Zd (m:HM) (t:RM):Prop where
 bl:t.bl=m.bls
 ob:t.ob=GL m
 born:t.born=m.births
 fw:∀ a,getM t.fw a=getM m.fw a
 fl:t.fw.length=m.fw.length
 o1:aC t.fw
 o2:aC m.fw
theorem gV:∀ {l l':List Nat},l.Pairwise (·<·)→l'.Pairwise (·<·)→(∀ a,a ∈ l↔a ∈ l')→l=l'
 | [],[],_,_,_=>rfl
 | [],b::l',_,_,h=>by have:=(h b).2 List.mem_cons_self; cases this
 | a::l,[],_,_,h=>by have:=(h a).1 List.mem_cons_self; cases this
 | a::l,b::l',h1,h2,h=>by
   have p1:=List.pairwise_cons.1 h1
   have p2:=List.pairwise_cons.1 h2
   have hab:a=b:=by
    rcases List.mem_cons.1 ((h a).1 List.mem_cons_self) with e | e
    ·exact e
    ·rcases List.mem_cons.1 ((h b).2 List.mem_cons_self) with e' | e'
     ·exact e'.symm
     ·have:=p1.1 b e'; have:=p2.1 a e; omega
   subst hab
   congr 1
   refine gV p1.2 p2.2 fun x=>⟨fun hx=>?_,fun hx=>?_⟩
   ·rcases List.mem_cons.1 ((h x).1 (List.mem_cons_of_mem _ hx)) with e | e
    ·subst e; have:=p1.1 x hx; omega
    ·exact e
   ·rcases List.mem_cons.1 ((h x).2 (List.mem_cons_of_mem _ hx)) with e | e
    ·subst e; have:=p2.1 x hx; omega
    ·exact e
theorem SI (m:HM):(FB m).Pairwise (·<·):=(List.pairwise_lt_range' (step:=1) (by decide)).filter _
theorem Ew {j:Nat}:j ∈ FB m↔Start m j:=Agx
theorem tW {m':HM} {l:List Nat} (hs:l.Pairwise (·<·)) (hm:∀ j,j ∈ l↔Start m' j):GL m'=l.map (Cs m'):=by
 unfold GL
 rw[gV (SI m') hs (fun a=>by rw[Ew,hm])]
def UI:List RO→Int→Option Nat
 | [],_=>none
 | o::l,a=>if o.addr=a then some 0 else (UI l a).map (·+1)
theorem vP (f:Nat→RO) (hf:∀ j,(f j).addr=((2*j:Nat):Int)):∀ (L:List Nat) (a:Int),(∀ x,UI (L.map f) a=some x→x<L.length ∧ ∀ h:x<L.length,a=((2*L[x]:Nat):Int))∧(UI (L.map f) a=none → ∀ j ∈ L,a≠((2*j:Nat):Int))
 | [],a=>⟨fun x h=>(by cases h),fun _ j hj=>(by cases hj)⟩
 | j::L,a=>by
   obtain ⟨h1,h2⟩:=vP f hf L a
   simp only[List.map_cons,UI,hf]
   constructor
   ·intro x hx
    split at hx
    ·rename_i e
     cases hx
     exact ⟨by simp,fun _=>e.symm⟩
    ·cases hq:UI (L.map f) a with
     | none=>rw[hq] at hx; cases hx
     | some y=>
       rw[hq] at hx; cases hx
       obtain ⟨q1,q2⟩:=h1 y hq
       exact ⟨by simpa using q1,fun h=>by simpa using q2 q1⟩
   ·intro hx
    split at hx
    ·cases hx
    ·rename_i e
     cases hq:UI (L.map f) a with
     | none=>
       intro j' hj' e'
       rcases List.mem_cons.1 hj' with rfl | hj'
       ·exact e e'.symm
       ·exact h2 hq j' hj' e'
     | some y=>rw[hq] at hx; cases hx
theorem Sg (m:HM) (j:Nat):(Cs m j).addr=((2*j:Nat):Int):=rfl
theorem Zd.idx {t:RM} (h:Zd m t) (a:Int):(∀ x,UI t.ob a=some x→x<t.ob.length ∧ ∃ j,Start m j∧a=((2*j:Nat):Int)∧Ea m a=true∧(FB m)[x]?=some j∧t.ob[x]?=some (Cs m j))∧(UI t.ob a=none→Ea m a=false):=by
 obtain ⟨h1,h2⟩:=vP (Cs m) (Sg m) (FB m) a
 rw[h.ob]
 constructor
 ·intro x hx
  obtain ⟨q1,q2⟩:=h1 x hx
  have hs:Start m (FB m)[x]:=Ew.1 (List.getElem_mem q1)
  refine ⟨by simpa [GL] using q1,(FB m)[x],hs,q2 q1,by rw[q2 q1]; exact dF hs,List.getElem?_eq_getElem q1, ?_⟩
  unfold GL
  rw[List.getElem?_map,List.getElem?_eq_getElem q1]; rfl
 ·intro hx
  cases hq:Ea m a with
  | false=>rfl
  | true=>
    obtain ⟨j,e,hs⟩:=Ek hq
    exact absurd e (h2 hx j (Ew.2 hs))
theorem Zd.has {t:RM} (h:Zd m t) (a:Int):(UI t.ob a).isSome=Ea m a:=by
 obtain ⟨h1,h2⟩:=h.idx a
 cases hq:UI t.ob a with
 | none=>rw[h2 hq]; rfl
 | some x=>obtain ⟨_,j,_,_,e,_⟩:=h1 x hq; rw[e]; rfl
theorem ye (hI:Inv m) {j:Nat} (hs:Start m j):(Cs m j).w=(sz m j:Int):=(YY hI hs).2.2.2.2.2.2.2
def rAt:List RO→Int→Option Int
 | [],_=>none
 | o::l,n=>if o.id=n then some o.addr else rAt l n
theorem zp (n:Int):∀ (L:List Nat),(rAt (L.map (Cs m)) n=none → ∀ j ∈ L,m.wds.getD (2*j) 0≠n)∧(∀ a,rAt (L.map (Cs m)) n=some a → ∃ j ∈ L,a=((2*j:Nat):Int)∧m.wds.getD (2*j) 0=n)
 | []=>⟨fun _ j hj=>(by cases hj),fun a h=>(by cases h)⟩
 | j::L=>by
   obtain ⟨h1,h2⟩:=zp n L
   simp only[List.map_cons,rAt,Sg]
   have e0:(Cs m j).id=m.wds.getD (2*j) 0:=rfl
   rw[e0]
   constructor
   ·intro hx
    split at hx
    ·cases hx
    ·rename_i e
     intro j' hj'
     rcases List.mem_cons.1 hj' with rfl | hj'
     ·exact e
     ·exact h1 hx j' hj'
   ·intro a hx
    split at hx
    ·rename_i e
     cases hx
     exact ⟨j,List.mem_cons_self,rfl,e⟩
    ·obtain ⟨j',q1,q2⟩:=h2 a hx
     exact ⟨j',List.mem_cons_of_mem _ q1,q2⟩
theorem Zd.at {t:RM} (h:Zd m t) (hI:Inv m) (n:Int):rAt t.ob n=getM m.pl n:=by
 rw[h.ob]
 obtain ⟨h1,h2⟩:=zp (m:=m) n (FB m)
 have hr:GL m=(FB m).map (Cs m):=rfl
 rw[hr]
 cases hq:rAt ((FB m).map (Cs m)) n with
 | none=>
   cases hg:getM m.pl n with
   | none=>rfl
   | some a=>
     obtain ⟨j,rfl,s1,s2⟩:=hI.plc _ _ hg
     exact absurd s2 (h1 hq j (Ew.2 s1))
 | some a=>
   obtain ⟨j,hj,rfl,e⟩:=h2 a hq
   have:=(hI.idn j (Ew.1 hj)).2.2
   rw[e] at this
   exact this.symm
def pr (l:List RO) (a w but:Int):Bool:=l.any fun o=>decide (o.id≠but∧o.addr<a+w∧a<o.addr+o.w)
end Go.Proofs.YtjbledomkmdkmaaGreat
end
section
namespace Go.Proofs.YtjbledomkmdkmaaGreat
open Go Go.AX
variable {m:HM} {t:RM}
def OI (m:HM):Prop:=∀ j,j<32*m.bls.length→¬ Start m j→Ec 1 m.pnw j=0
theorem pA (hI:Inv m) {m':HM} {j j':Nat} (hs:Start m j) (hw:∀ c,c<sz m j→m'.wds.getD (2*j'+c) 0=m.wds.getD (2*j+c) 0) (hp:Ec 1 m'.pnw j'=Ec 1 m.pnw j):Cs m' j'={ Cs m j with addr:=((2*j':Nat):Int) }:=by
 have hz:=hI.size hs
 have w1:=hw 1 (by omega)
 obtain ⟨_,_,er,ed⟩:=fW (m:=m) (m':=m') (j:=j) (j':=j') w1
 have ek:Fm m' j'=Fm m j:=by unfold Fm; rw[w1]
 have w0:=hw 0 (by omega)
 rw[Nat.add_zero,Nat.add_zero] at w0
 unfold Cs
 rw[w0,er,ed,ek,hp,dM (m:=m) (m':=m') (A5 m j).toNat (2*j+2) (2*j'+2) (fun q hq=>by
  have:=hw (2+q) (by omega)
  rw[Nat.add_assoc,Nat.add_assoc]; exact this),dM (m:=m) (m':=m') (BN m j).toNat (2*j+2+(A5 m j).toNat) (2*j'+2+(A5 m j).toNat) (fun q hq=>by
  have:=hw (2+(A5 m j).toNat+q) (by omega)
  rw[Nat.add_assoc (2*j'),Nat.add_assoc (2*j'),Nat.add_assoc (2*j),Nat.add_assoc (2*j)]; exact this)]
theorem UT (hI:Inv m) {m':HM} {j:Nat} (hs:Start m j) (hw:∀ c,c<sz m j→m'.wds.getD (2*j+c) 0=m.wds.getD (2*j+c) 0) (hp:Ec 1 m'.pnw j=Ec 1 m.pnw j):Cs m' j=Cs m j:=pA hI hs hw hp
def ZG:List RO→Int→Nat
 | [],_=>0
 | o::l,a=>if o.addr<a then ZG l a+1 else 0
def cO (l:List RO) (o:RO):List RO:=l.take (ZG l o.addr)++o::l.drop (ZG l o.addr)
theorem zq:∀ (l:List RO) (a:Int),ZG l a≤l.length
 | [],_=>Nat.le_refl _
 | o::l,a=>by
   rw[ZG]
   split
   ·have:=zq l a; simp; omega
   ·simp
theorem vS (f:Nat→RO) (hf:∀ j,(f j).addr=((2*j:Nat):Int)) (j:Nat):∀ (L:List Nat),L.Pairwise (·<·)→(∀ y ∈ L.take (ZG (L.map f) ((2*j:Nat):Int)),y<j)∧(∀ y ∈ L.drop (ZG (L.map f) ((2*j:Nat):Int)),j≤y)
 | [],_=>⟨fun y h=>(by simp at h),fun y h=>(by simp at h)⟩
 | b::L,h=>by
   have p:=List.pairwise_cons.1 h
   obtain ⟨h1,h2⟩:=vS f hf j L p.2
   simp only[List.map_cons,ZG,hf]
   split
   ·rw[List.take_succ_cons,List.drop_succ_cons]
    refine ⟨fun y hy=>?_,h2⟩
    rcases List.mem_cons.1 hy with rfl | hy
    ·omega
    ·exact h1 y hy
   ·rw[List.take_zero,List.drop_zero]
    refine ⟨fun y hy=>(by cases hy),fun y hy=>?_⟩
    rcases List.mem_cons.1 hy with rfl | hy
    ·omega
    ·have:=p.1 y hy; omega
theorem vQ {m':HM} {L:List Nat} {j:Nat} {o:RO} (hs:L.Pairwise (·<·)) (hj:j ∉ L) (hst:∀ y,Start m' y↔y=j∨y ∈ L) (f:Nat→RO) (hf:∀ j,(f j).addr=((2*j:Nat):Int)) (hfL:∀ y ∈ L,Cs m' y=f y) (ho:Cs m' j=o):GL m'=cO (L.map f) o:=by
 have ha:o.addr=((2*j:Nat):Int):=by rw[← ho]; rfl
 obtain ⟨h1,h2⟩:=vS f hf j L hs
 unfold cO
 rw[ha]
 obtain ⟨p,hp⟩:∃ p,ZG (L.map f) ((2*j:Nat):Int)=p:=⟨_,rfl⟩
 rw[hp] at h1 h2 ⊢
 have hsplit:=List.take_append_drop p L
 have hs':(L.take p++L.drop p).Pairwise (·<·):=by rw[hsplit]; exact hs
 rw[List.pairwise_append] at hs'
 rw[tW (l:=L.take p++j::L.drop p) ?_ ?_,List.map_append,List.map_cons,← List.map_take,← List.map_drop,ho]
 ·congr 1
  ·exact List.map_congr_left fun y hy=>hfL y (List.mem_of_mem_take hy)
  ·congr 1
   exact List.map_congr_left fun y hy=>hfL y (List.mem_of_mem_drop hy)
 ·rw[List.pairwise_append,List.pairwise_cons]
  refine ⟨hs'.1,⟨fun y hy=>?_,hs'.2.1⟩,fun x hx y hy=>?_⟩
  ·have:=h2 y hy
   have:y≠j:=fun e=>hj (e ▸ List.mem_of_mem_drop hy)
   omega
  ·rcases List.mem_cons.1 hy with rfl | hy
   ·exact h1 x hx
   ·exact hs'.2.2 x hx y hy
 ·intro y
  rw[hst y,List.mem_append,List.mem_cons]
  constructor
  ·rintro (h | h | h)
   ·exact .inr (List.mem_of_mem_take h)
   ·exact .inl h
   ·exact .inr (List.mem_of_mem_drop h)
  ·rintro (h | h)
   ·exact .inr (.inl h)
   ·rw[← hsplit,List.mem_append] at h
    rcases h with h | h
    ·exact .inl h
    ·exact .inr (.inr h)
theorem kM {m':HM}:∀ (n a:Nat),(∀ q,q<n→m'.wds.getD (a+q) 0=0)→Sp m' a n=List.replicate n 0
 | 0,a,h=>rfl
 | n+1,a,h=>by
   rw[YM,List.replicate_succ,kM n (a+1) (fun q hq=>by have:=h (q+1) (by omega); rw[show a+1+q=a+(q+1) from by omega]; exact this)]
   have:=h 0 (by omega)
   rw[Nat.add_zero] at this
   rw[this]
theorem Zd.AG {m':HM} {t':RM} (h:Zd m t) (hb:t'.bl=m'.bls) (ho:t'.ob=GL m') (hn:t'.born=m'.births) (hf:t'.fw=t.fw) (hm:m'.fw=m.fw):Zd m' t':=
 ⟨hb,ho,hn,by rw[hf,hm]; exact h.fw,by rw[hf,hm]; exact h.fl,by rw[hf]; exact h.o1,by rw[hm]; exact h.o2⟩
theorem KC (hS:Sh m) {j:Nat} (hj:j<32*m.bls.length) (n:Int) (a:Nat):(DH m j n).wds.getD a 0=if a=2*j+1 then n else if a=2*j then m.births+1 else m.wds.getD a 0:=by
 have:=hS.wl
 show ((m.wds.set (2*j) (m.births+1)).set (2*j+1) n).getD a 0=_
 rw[CC,CC,List.length_set]
 by_cases h1:a=2*j+1
 ·subst h1; rw[if_pos ⟨rfl,by omega⟩,if_pos rfl]
 ·rw[if_neg (fun h=>h1 h.1.symm),if_neg h1]
  by_cases h2:a=2*j
  ·subst h2; rw[if_pos ⟨rfl,by omega⟩,if_pos rfl]
  ·rw[if_neg (fun h=>h2 h.1.symm),if_neg h2]
theorem Zd.place (h:Zd m t) (hI:Inv m) (hI2:Inv2 m) (hS:Sh m) (hP:OI m) {j:Nat} {r d k:Int} (hv:valid r d k=true) (hj:j<32*m.bls.length)
  (hap:∀ o,Start m o→2*o+sz m o≤2*j∨2*j+XF (num r d k)≤2*o):Zd (DH m j (num r d k)) { t with born:=t.born+1,ob:=cO t.ob ⟨((2*j:Nat):Int),t.born+1,r,d,k,List.replicate r.toNat 0,List.replicate d.toNat 0,false⟩ }∧OI (DH m j (num r d k)):=by
 have hsl:=hS.sl
 obtain ⟨p1,p2,p3,_⟩:=PM hv
 have hsz:=OG hv
 have hv':=hv
 simp[valid] at hv'
 have hnot:¬ Start m j:=by
  intro hs
  have:=hap j hs
  have:=hI.size hs
  rcases this with ⟨_,_⟩
  rw[hsz] at *
  omega
 have hst:∀ y,Start (DH m j (num r d k)) y↔y=j∨y ∈ FB m:=fun y=>by rw[Tz hsl hj,Ew]
 have key:GL (DH m j (num r d k))=cO (GL m) ⟨((2*j:Nat):Int),m.births+1,r,d,k,List.replicate r.toNat 0,List.replicate d.toNat 0,false⟩:=by
  refine vQ (SI m) (fun hm=>hnot (Ew.1 hm)) hst (Cs m) (Sg m) (fun y hy=>?_) ?_
  ·have hy:=Ew.1 hy
   have hne:y≠j:=fun e=>hnot (e ▸ hy)
   have hz:=hI.size hy
   have:=hap y hy
   refine UT hI hy (fun c hc=>?_) rfl
   rw[KC hS hj,if_neg (by rw[hsz] at this; omega),if_neg (by rw[hsz] at this; omega)]
  ·have w0:(DH m j (num r d k)).wds.getD (2*j) 0=m.births+1:=by rw[KC hS hj,if_neg (by omega),if_pos rfl]
   have w1:(DH m j (num r d k)).wds.getD (2*j+1) 0=num r d k:=by rw[KC hS hj,if_pos rfl]
   have e1:A5 (DH m j (num r d k)) j=r:=by unfold A5; rw[w1,p1]
   have e2:BN (DH m j (num r d k)) j=d:=by unfold BN; rw[w1,p2]
   have e3:Fm (DH m j (num r d k)) j=k:=by unfold Fm; rw[w1,p3]
   have hzero:∀ a,2*j+2≤a→a<2*j+XF (num r d k)→(DH m j (num r d k)).wds.getD a 0=0:=by
    intro a h1 h2
    rw[KC hS hj,if_neg (by omega),if_neg (by omega)]
    refine hI2.zero a fun o ho q1 q2=>?_
    have:=hap o ho
    have:=hI.use ho
    omega
   unfold Cs
   rw[w0,e1,e2,e3,kM,kM]
   ·have:Ec 1 (DH m j (num r d k)).pnw j=0:=hP j hj hnot
    rw[this]; rfl
   ·intro q hq; exact hzero _ (by omega) (by rw[hsz]; omega)
   ·intro q hq; exact hzero _ (by omega) (by rw[hsz]; omega)
 refine ⟨h.AG h.bl ?_ ?_ rfl rfl,fun y hy hn=>?_⟩
 ·show cO t.ob _=_
  rw[key,h.ob,h.born]
 ·show t.born+1=m.births+1
  rw[h.born]
 ·exact hP y hy fun hs=>hn ((Tz hsl hj).2 (.inr hs))
theorem rW {α β:Type} (f:α→β):∀ (l:List α) (x:Nat),(l.map f).eraseIdx x=(l.eraseIdx x).map f
 | [],_=>rfl
 | _::_,0=>rfl
 | a::l,x+1=>by simp[List.eraseIdx_cons_succ,rW f l x]
theorem rH {m':HM} {x j:Nat} (hx:(FB m)[x]?=some j) (hst:∀ y,Start m' y↔y≠j∧Start m y) (hr:∀ y,Start m y→y≠j→Cs m' y=Cs m y):GL m'=(GL m).eraseIdx x∧((FB m).eraseIdx x).Pairwise (·<·)∧(∀ y,y ∈ (FB m).eraseIdx x↔y≠j∧Start m y)∧(GL m).eraseIdx x=((FB m).eraseIdx x).map (Cs m):=by
 obtain ⟨hxl,hxe⟩:=List.getElem?_eq_some_iff.1 hx
 have hs:=(SI m).sublist (List.eraseIdx_sublist (FB m) x)
 have hnd:(FB m).Nodup:=jw _ _
 have hm:∀ y,y ∈ (FB m).eraseIdx x↔y≠j∧Start m y:=by
  intro y
  rw[List.mem_eraseIdx_iff_getElem]
  constructor
  ·rintro ⟨i,hi,hne,rfl⟩
   refine ⟨fun e=>hne ?_,Ew.1 (List.getElem_mem _)⟩
   exact (List.getElem_inj hnd).1 (e.trans hxe.symm)
  ·rintro ⟨hne,hy⟩
   obtain ⟨i,hi,rfl⟩:=List.mem_iff_getElem.1 (Ew.2 hy)
   exact ⟨i,hi,fun e=>hne (by subst e; exact hxe),rfl⟩
 have he:(GL m).eraseIdx x=((FB m).eraseIdx x).map (Cs m):=by
  unfold GL; rw[rW]
 refine ⟨?_,hs,hm,he⟩
 rw[tW hs (fun y=>by rw[hm,hst]),he]
 exact List.map_congr_left fun y hy=>hr y ((hm y).1 hy).2 ((hm y).1 hy).1
theorem Zd.kill (h:Zd m t) (hI:Inv m) (hS:Sh m) (hP:OI m) {x j:Nat} (hs:Start m j) (hx:(FB m)[x]?=some j):Zd (KB m j) { t with ob:=t.ob.eraseIdx x }∧OI (KB m j):=by
 have hsl:=hS.sl
 have hpl:=hS.pl
 have hj:=hs.1
 have hst:∀ y,Start (KB m j) y↔y≠j∧Start m y:=fun y=>Sr hsl hj
 obtain ⟨e1,_⟩:=rH hx hst (fun y hy hne=>UT hI hy (fun c hc=>VJ hI hs hy hne (by omega) (by omega)) (by
  show Ec 1 (GR 1 m.pnw j 0) y=_
  rw[Ca (.inl rfl) (by decide) (Ne.symm hne)]))
 refine ⟨h.AG h.bl ?_ h.born rfl rfl,fun y hy hn=>?_⟩
 ·show t.ob.eraseIdx x=_
  rw[e1,h.ob]
 ·show Ec 1 (GR 1 m.pnw j 0) y=0
  by_cases e:y=j
  ·subst e; rw[Fo (.inl rfl) (by decide) (by omega)]
  ·rw[Ca (.inl rfl) (by decide) (Ne.symm e)]
   exact hP y hy fun hq=>hn ((hst y).2 ⟨e,hq⟩)
theorem aC.getM_none {k:Int}:∀ {l:List (Int × Int)},getM l k=none → ∀ e ∈ l,e.1≠k
 | [],_,e,he=>by cases he
 | a::l,h,e,he=>by
   unfold getM at h
   rw[List.find?_cons] at h
   cases hq:(k == a.1) with
   | true=>rw[hq] at h; cases h
   | false=>
     rw[hq] at h
     rcases List.mem_cons.1 he with rfl | he
     ·exact fun e'=>by rw[e'] at hq; simp at hq
     ·exact aC.getM_none (l:=l) h e he
theorem L7 (a k:Int) (b:Int) (l:List (Int × Int)):getM ((a,b)::l) k=if k=a then some b else getM l k:=by
 unfold getM
 rw[List.find?_cons]
 by_cases h:k=a
 ·rw[if_pos h]; simp[h]
 ·rw[if_neg h]
  have:(k == a)=false:=by simpa using h
  simp only[this]
def Ag4 (l:List (Int × Int)) (a b:Int):List (Int × Int):=(l.filter fun e=>e.1 != a)++[(a,b)]
theorem vu (l l':List (Int × Int)) (k:Int):getM (l++l') k=(getM l k).or (getM l' k):=by
 induction l with
 | nil=>simp[getM]
 | cons e l ih=>
   obtain ⟨x,y⟩:=e
   rw[List.cons_append,L7,L7,ih]
   split <;> simp
theorem cu (a k:Int):∀ l:List (Int × Int),getM (l.filter fun e=>e.1 != a) k=if k=a then none else getM l k
 | []=>by simp[getM]
 | (x,y)::l=>by
   rw[List.filter_cons]
   have ih:=cu a k l
   by_cases h:x=a
   ·subst h
    simp only[bne_self_eq_false,Bool.false_eq_true,if_false]
    rw[ih,L7]
    by_cases hk:k=x
    ·rw[if_pos hk,if_pos hk]
    ·rw[if_neg hk,if_neg hk,if_neg hk]
   ·have:(x != a)=true:=bne_iff_ne.2 h
    simp only[this,if_true]
    rw[L7,ih,L7]
    by_cases hk:k=x
    ·rw[if_pos hk,if_pos hk,if_neg (by omega)]
    ·rw[if_neg hk,if_neg hk]
theorem cJ (p:Int × Int→Bool):∀ l,aC l→aC (l.filter p)
 | [],_=>trivial
 | e::l,h=>by
   rw[List.filter_cons]
   split
   ·refine ⟨?_,cJ p l h.2⟩
    have h1:=h.1
    cases hq:getM (l.filter p) e.1 with
    | none=>rfl
    | some v=>
      unfold getM at hq
      cases hf:(l.filter p).find? (fun e'=>e.1 == e'.1) with
      | none=>rw[hf] at hq; cases hq
      | some e'=>
        have hm:=List.mem_of_find?_eq_some hf
        have he:=List.find?_some hf
        have:=aC.getM_none h1 e' (List.mem_filter.1 hm).1
        simp at he
        exact absurd he.symm this
   ·exact cJ p l h.2
theorem oJ (a:Int):∀ l:List (Int × Int),aC l→(l.filter fun e=>e.1 != a).length+(if (getM l a).isSome then 1 else 0)=l.length
 | [],_=>by simp[getM]
 | (x,y)::l,h=>by
   have ih:=oJ a l h.2
   rw[List.filter_cons,L7]
   by_cases he:x=a
   ·subst he
    have h1:getM l x=none:=h.1
    rw[h1] at ih
    simp at ih ⊢
    exact ih
   ·have:(x != a)=true:=bne_iff_ne.2 he
    simp only[this,if_true]
    rw[if_neg (Ne.symm he)]
    simp only[List.length_cons]
    omega
theorem w8 (a b:Int):∀ l:List (Int × Int),(Wy a b l).length=if (getM l a).isSome then l.length else l.length+1
 | []=>by simp[Wy,getM]
 | (x,y)::l=>by
   have ih:=w8 a b l
   rw[Wy,L7]
   by_cases he:a=x
   ·subst he; simp
   ·have:(a == (x,y).1)=false:=by simpa using he
    simp only[this,Bool.false_eq_true,if_false,if_neg he,List.length_cons,ih]
    split <;> rfl
theorem sf (a b:Int):∀ l:List (Int × Int),aC l→getM l a=none→aC (l++[(a,b)])
 | [],_,_=>⟨rfl,trivial⟩
 | (x,y)::l,h,hn=>by
   rw[L7] at hn
   have hne:a≠x:=fun e=>by rw[if_pos e] at hn; cases hn
   rw[if_neg hne] at hn
   refine ⟨?_,sf a b l h.2 hn⟩
   show getM (l++[(a,b)]) x=none
   rw[vu,show getM l x=none from h.1,L7,if_neg (Ne.symm hne)]; rfl
theorem Zd.fwd {m':HM} {t':RM} (h:Zd m t) (a b:Int) (hb:t'.bl=m'.bls) (ho:t'.ob=GL m') (hn:t'.born=m'.births) (hf:t'.fw=Ag4 t.fw a b) (hm:m'.fw=Wy a b m.fw):Zd m' t':=by
 have hno:getM (t.fw.filter fun e=>e.1 != a) a=none:=by rw[cu,if_pos rfl]
 refine ⟨hb,ho,hn,fun k=>?_, ?_, ?_,by rw[hm]; exact cK _ _ _ h.o2⟩
 ·rw[hf,hm,VE]
  unfold Ag4
  rw[vu,cu,L7]
  by_cases hk:k=a
  ·rw[if_pos hk,if_pos hk,if_pos hk]; rfl
  ·rw[if_neg hk,if_neg hk,if_neg hk,← h.fw k]
   cases getM t.fw k <;> rfl
 ·rw[hf,hm,w8]
  unfold Ag4
  have h1:=oJ a t.fw h.o1
  rw[h.fw a] at h1
  have h2:=h.fl
  rw[List.length_append]
  simp only[List.length_cons,List.length_nil]
  cases hq:(getM m.fw a).isSome with
  | true=>rw[hq] at h1; simp only[if_true] at h1 ⊢; omega
  | false=>rw[hq] at h1; simp only[Bool.false_eq_true,if_false] at h1 ⊢; omega
 ·rw[hf]
  exact sf _ _ _ (cJ _ _ h.o1) hno
theorem Zd.move (h:Zd m t) (hI:Inv m) (hS:Sh m) (hP:OI m) {x j u:Nat} (hs:Start m j) (hx:(FB m)[x]?=some j) (hu:u<32*m.bls.length) (hfit:2*u+sz m j≤m.wds.length)
  (hap:∀ o,Start m o→o≠j→2*o+sz m o≤2*u∨2*u+sz m j≤2*o):Zd (VO m j u) { t with ob:=cO (t.ob.eraseIdx x) { Cs m j with addr:=((2*u:Nat):Int) },fw:=Ag4 t.fw ((2*j:Nat):Int) ((2*u:Nat):Int) }∧OI (VO m j u):=by
 have hsl:=hS.sl
 have hpl:=hS.pl
 have hz:=hI.size hs
 have tl:=Ahj 1 m.pnw j
 have hst:=fun y=>pW (m:=m) hS (j:=j) (t:=u) (j':=y) hs.1 hu
 have hno:∀ o,Start m o→o≠j→o≠u:=by
  rintro o ho e rfl
  have:=hap o ho e
  have:=hI.size ho
  omega
 obtain ⟨_,e2,e3,e4⟩:=rH (m':=KB m j) hx (fun y=>Sr hsl hs.1) (fun y hy hne=>UT hI hy (fun c hc=>VJ hI hs hy hne (by omega) (by omega)) (by
  show Ec 1 (GR 1 m.pnw j 0) y=_
  rw[Ca (.inl rfl) (by decide) (Ne.symm hne)]))
 have key:GL (VO m j u)=cO ((GL m).eraseIdx x) { Cs m j with addr:=((2*u:Nat):Int) }:=by
  rw[e4]
  refine vQ (j:=u) e2 (fun hm=>?_) (fun y=>?_) (Cs m) (Sg m) (fun y hy=>?_) ?_
  ·obtain ⟨q1,q2⟩:=(e3 u).1 hm
   exact hno u q2 q1 rfl
  ·rw[hst,e3]
  ·obtain ⟨q1,q2⟩:=(e3 y).1 hy
   refine UT hI q2 (fun c hc=>pc hI hs hfit hap q2 q1 (by omega) (by omega)) ?_
   show Ec 1 (GR 1 (GR 1 m.pnw j 0) u (Ec 1 m.pnw j)) y=_
   rw[Ca (.inl rfl) tl (Ne.symm (hno y q2 q1)),Ca (.inl rfl) (by decide) (Ne.symm q1)]
  ·refine pA hI hs (fun c hc=>?_) ?_
   ·rw[ZC hI hs hfit,if_pos (by omega),show 2*j+(2*u+c-2*u)=2*j+c from by omega]
   ·show Ec 1 (GR 1 (GR 1 m.pnw j 0) u (Ec 1 m.pnw j)) u=_
    rw[Fo (.inl rfl) tl (by rw[Hg]; omega)]
 refine ⟨h.fwd _ _ h.bl ?_ h.born rfl rfl,fun y hy hn=>?_⟩
 ·show cO (t.ob.eraseIdx x) _=_
  rw[key,h.ob]
 ·show Ec 1 (GR 1 (GR 1 m.pnw j 0) u (Ec 1 m.pnw j)) y=0
  have hy:y<32*m.bls.length:=hy
  have h1:y≠u:=fun e=>hn ((hst y).2 (.inl e))
  rw[Ca (.inl rfl) tl (Ne.symm h1)]
  by_cases e:y=j
  ·subst e; rw[Fo (.inl rfl) (by decide) (by omega)]
  ·rw[Ca (.inl rfl) (by decide) (Ne.symm e)]
   exact hP y hy fun hq=>hn ((hst y).2 (.inr ⟨e,hq⟩))
theorem z8 {m':HM} {x j:Nat} {o:RO} (hx:(FB m)[x]?=some j) (hst:∀ y,Start m' y↔Start m y) (hr:∀ y,Start m y→y≠j→Cs m' y=Cs m y) (ho:Cs m' j=o):GL m'=(GL m).set x o:=by
 obtain ⟨hxl,hxe⟩:=List.getElem?_eq_some_iff.1 hx
 have hnd:(FB m).Nodup:=jw _ _
 rw[tW (SI m) (fun y=>by rw[Ew,hst])]
 apply List.ext_getElem?
 intro i
 unfold GL
 rw[List.getElem?_map,List.getElem?_set,List.length_map,List.getElem?_map]
 by_cases e:x=i
 ·subst e
  rw[if_pos rfl,if_pos hxl,hx,← ho]; rfl
 ·rw[if_neg e]
  cases hq:(FB m)[i]? with
  | none=>rfl
  | some y=>
    obtain ⟨hil,hie⟩:=List.getElem?_eq_some_iff.1 hq
    have hy:Start m y:=Ew.1 (hie ▸ List.getElem_mem hil)
    show some _=some _
    rw[hr y hy (fun e'=>e ((List.getElem_inj hnd).1 (hxe.trans (e'.symm.trans hie.symm))))]
theorem wx {m':HM} {a i n:Nat} {v:Int} (hi:i<n) (hal:a+i<m.wds.length) (hw:m'.wds=m.wds.set (a+i) v):Sp m' a n=(Sp m a n).set i v:=by
 apply List.ext_getElem?
 intro q
 rw[List.getElem?_set,HR]
 by_cases hq:q<n
 ·rw[db m' n a q hq,hw,CC]
  by_cases e:i=q
  ·subst e; rw[if_pos ⟨rfl,hal⟩,if_pos rfl,if_pos hi]
  ·rw[if_neg (fun h=>e (by omega)),if_neg e,db m n a q hq]
 ·rw[List.getElem?_eq_none (by rw[HR]; omega),if_neg (by omega),List.getElem?_eq_none (by rw[HR]; omega)]
theorem wv {m':HM} {a n p:Nat} {v:Int} (h:p<a∨a+n≤p) (hw:m'.wds=m.wds.set p v):Sp m' a n=Sp m a n:=
 dM n a a fun q hq=>by rw[hw,CC,if_neg (by omega)]
theorem Zd.word (h:Zd m t) (hI:Inv m) (hP:OI m) {x j q:Nat} (hs:Start m j) (hx:(FB m)[x]?=some j) (hq:2+q<use m j) (v:Int):
  Zd (MH m (2*j+2+q) v) { t with ob:=t.ob.set x (if (q:Int)<A5 m j then { Cs m j with refs:=(Cs m j).refs.set q v } else { Cs m j with data:=(Cs m j).data.set (q-(A5 m j).toNat) v }) }∧OI (MH m (2*j+2+q) v):=by
 have hu:=hI.use hs
 have hfit:=hI.fit j hs
 have hst:∀ y,Start (MH m (2*j+2+q) v) y↔Start m y:=fun y=>Iff.rfl
 obtain ⟨_,r1,r2,r3,r4,_⟩:=YY hI hs
 have key:=qj hI hs (t:=q) (by omega) v
 have e:GL (MH m (2*j+2+q) v)=(GL m).set x (if (q:Int)<A5 m j then { Cs m j with refs:=(Cs m j).refs.set q v } else { Cs m j with data:=(Cs m j).data.set (q-(A5 m j).toNat) v }):=by
  refine z8 hx hst (fun y hy hne=>?_) ?_
  ·refine UT hI hy (fun c hc=>?_) rfl
   show (m.wds.set _ _).getD _ 0=_
   rw[CC,if_neg]
   rintro ⟨e,_⟩
   exact hne (og hI hy hs (a:=2*j+2+q) (by omega) (by omega) (by omega) (by omega))
  ·have k0:=key j hs 0 (by decide)
   have k1:=key j hs 1 (by decide)
   obtain ⟨_,_,er,ed⟩:=fW (m:=m) (m':=MH m (2*j+2+q) v) (j:=j) (j':=j) k1
   have ek:Fm (MH m (2*j+2+q) v) j=Fm m j:=by unfold Fm; rw[k1]
   simp only[Nat.add_zero] at k0
   unfold Cs
   rw[k0,er,ed,ek]
   by_cases hc:(q:Int)<A5 m j
   ·have a1:Sp (MH m (2*j+2+q) v) (2*j+2) (A5 m j).toNat=(Sp m (2*j+2) (A5 m j).toNat).set q v:=wx (by omega) (by omega) rfl
    have a2:Sp (MH m (2*j+2+q) v) (2*j+2+(A5 m j).toNat) (BN m j).toNat=Sp m (2*j+2+(A5 m j).toNat) (BN m j).toNat:=wv (p:=2*j+2+q) (v:=v) (by omega) rfl
    rw[if_pos hc,a1,a2]
    rfl
   ·have a1:Sp (MH m (2*j+2+q) v) (2*j+2) (A5 m j).toNat=Sp m (2*j+2) (A5 m j).toNat:=wv (p:=2*j+2+q) (v:=v) (by omega) rfl
    have a2:Sp (MH m (2*j+2+q) v) (2*j+2+(A5 m j).toNat) (BN m j).toNat=(Sp m (2*j+2+(A5 m j).toNat) (BN m j).toNat).set (q-(A5 m j).toNat) v:=wx (by omega) (by omega) (by
     show m.wds.set _ _=_
     rw[show 2*j+2+q=2*j+2+(A5 m j).toNat+(q-(A5 m j).toNat) from by omega])
    rw[if_neg hc,a1,a2]
    rfl
 exact ⟨h.AG h.bl (by show t.ob.set x _=_; rw[e,h.ob]) h.born rfl rfl,hP⟩
theorem Zd.pins (h:Zd m t) (hI:Inv m) (hS:Sh m) (hP:OI m) {x j:Nat} (hs:Start m j) (hx:(FB m)[x]?=some j) (b:Bool):
  Zd { m with pnw:=GR 1 m.pnw j (if b then 1 else 0) } { t with ob:=t.ob.set x { Cs m j with lU:=b } }∧OI { m with pnw:=GR 1 m.pnw j (if b then 1 else 0) }:=by
 have hpl:=hS.pl
 have hj:=hs.1
 have hb:(if b then 1 else 0)<2 ^ 1:=by cases b <;> decide
 have e:GL { m with pnw:=GR 1 m.pnw j (if b then 1 else 0) }=(GL m).set x { Cs m j with lU:=b }:=by
  refine z8 hx (fun y=>Iff.rfl) (fun y hy hne=>UT hI hy (fun c hc=>rfl) ?_) ?_
  ·show Ec 1 (GR 1 m.pnw j _) y=_
   rw[Ca (.inl rfl) hb (Ne.symm hne)]
  ·show (⟨_,_,_,_,_,_,_,decide (Ec 1 (GR 1 m.pnw j (if b then 1 else 0)) j=1)⟩:RO)=_
   rw[Fo (.inl rfl) hb (by omega)]
   cases b <;> rfl
 refine ⟨h.AG h.bl (by show t.ob.set x _=_; rw[e,h.ob]) h.born rfl rfl,fun y hy hn=>?_⟩
 show Ec 1 (GR 1 m.pnw j _) y=0
 have hne:y≠j:=fun e=>hn (e ▸ hs)
 rw[Ca (.inl rfl) hb (Ne.symm hne)]
 exact hP y hy hn
theorem Zd.forget (h:Zd m t):Zd { m with fw:=[] } { t with fw:=[] }:=⟨h.bl,h.ob,h.born,fun _=>rfl,rfl,trivial,trivial⟩
theorem Zd.blocks (h:Zd m t) (l:List (Int × Int)) (hl:l.length=m.bls.length):Zd { m with bls:=l } { t with bl:=l }:=by
 refine h.AG rfl ?_ h.born rfl rfl
 show t.ob=_
 rw[h.ob]
 unfold GL FB
 show _=(FP { m with bls:=l } 0 (32*l.length)).map _
 rw[hl]; rfl
theorem OI.blocks (hP:OI m) (l:List (Int × Int)) (hl:l.length=m.bls.length):OI { m with bls:=l }:=by
 intro y hy hn
 have hy:y<32*l.length:=hy
 refine hP y (by omega) fun hs=>hn ⟨?_,hs.2⟩
 show y<32*l.length
 exact hy
end Go.Proofs.YtjbledomkmdkmaaGreat
end
section
namespace Go.Proofs.YtjbledomkmdkmaaGreat
open Go Go.AX
noncomputable local instance qRR:A9:=Aw
local instance nRR:Kn:=⟨true⟩
variable {σ:Aa} {m:HM} {t:RM}
def Fg (σ:Aa) (s:Ce) (l:List Int):Prop:=s.2.1=l.length∧(l≠[] → ∃ b c,s=(some ⟨b,0,none⟩,l.length,c)∧σ[b]?=some (.cells (Bm l) As true)) ∧ ∀ a,s.1=some a → ∃ cs T w,σ[a.block]?=some (.cells cs T w)∧a.off≤cs.length
def hs (s:Ce):List Nat:=match s.1 with
 | some a=>[a.block]
 | none=>[]
theorem Ch {s:Ce} {b:Nat}:b ∈ hs s ↔ ∃ a,s.1=some a∧a.block=b:=by
 unfold hs
 cases s.1 with
 | none=>simp
 | some a=>simp[eq_comm]
def Bf (o:RO) (p:Ce × Ce):List Value:=[.int .i64 o.addr,.int .i64 o.id,.int .i64 o.r,.int .i64 o.d,.int .i64 o.k,.slice p.1.1 p.1.2.1 p.1.2.2,.slice p.2.1 p.2.2.1 p.2.2.2,.bool o.lU]
def Eb:List RO→List (Ce × Ce)→List Value
 | o::l,p::om=>Bf o p++Eb l om
 | _,_=>[]
theorem UP:∀ (l:List RO) (om:List (Ce × Ce)),om.length=l.length→(Eb l om).length=l.length*8
 | [],[],_=>rfl
 | [],p::om,h=>by simp at h
 | o::l,[],h=>by simp at h
 | o::l,p::om,h=>by
   have:=UP l om (by simpa using h)
   simp[Eb,Bf,this]; omega
theorem rZ:∀ (l:List RO) (om:List (Ce × Ce)) (x:Nat) (h:x<l.length) (h':x<om.length) (q:Nat),q<8→(Eb l om)[x*8+q]?=(Bf l[x] om[x])[q]?
 | [],om,x,h,_,_,_=>by simp at h
 | o::l,[],x,_,h',_,_=>by simp at h'
 | o::l,p::om,0,h,h',q,hq=>by
   simp only[Eb,Nat.zero_mul,Nat.zero_add,List.getElem_cons_zero]
   rw[List.getElem?_append_left (by simp[Bf]; omega)]
 | o::l,p::om,x+1,h,h',q,hq=>by
   have ih:=rZ l om x (by simpa using h) (by simpa using h') q hq
   simp only[Eb,List.getElem_cons_succ]
   rw[List.getElem?_append_right (by simp[Bf]; omega),show (x+1)*8+q-(Bf o p).length=x*8+q from by simp[Bf]; omega,ih]
def nk (σ:Aa) (s:Ce) (l:List (Int × Int)):Prop:=EM mf 2 σ s l.length (Dd l)∨(l=[] ∧ ∃ b cs T w,s=(some ⟨b,0,some 0⟩,0,0)∧σ[b]?=some (.cells cs T w))
theorem nk.AG {σ':Aa} {s:Ce} {l:List (Int × Int)} (h:nk σ s l) (hs:∀ a,s.1=some a→σ'[a.block]?=σ[a.block]?):nk σ' s l:=by
 rcases h with h | ⟨h0,b,cs,T,w,rfl,hc⟩
 ·exact .inl (h.AG hs)
 ·exact .inr ⟨h0,b,cs,T,w,rfl,(hs _ rfl).trans hc⟩
theorem nk.form {s:Ce} {l:List (Int × Int)} (h:nk σ s l):s=(s.1,l.length,l.length):=by
 rcases h with h | ⟨rfl,b,cs,T,w,rfl,hc⟩
 ·exact h.form
 ·rfl
theorem nk.sl {s:Ce} {l:List (Int × Int)} (h:nk σ s l) {x:Nat} (hx:x<l.length):EM mf 2 σ s l.length (Dd l):=by
 rcases h with h | ⟨rfl,_⟩
 ·exact h
 ·simp at hx
structure RI where
 hb:Nat
 bs:Ce
 os:Ce
 fs:Ce
 om:List (Ce × Ce)
def RI.l (i:RI):List Nat:=i.hb::(hs i.bs++(hs i.os++(hs i.fs++i.om.flatMap fun p=>hs p.1++hs p.2)))
structure K5 (σ:Aa) (i:RI) (t:RM):Prop where
 hp:σ[i.hb]?=some (.cells [.slice i.bs.1 i.bs.2.1 i.bs.2.2,.slice i.os.1 i.os.2.1 i.os.2.2,.slice i.fs.1 i.fs.2.1 i.fs.2.2,.int .i64 t.born] Dk true)
 bl:EM Am 2 σ i.bs t.bl.length (Dd t.bl)
 ob:EM Ac 8 σ i.os t.ob.length (Eb t.ob i.om)
 fw:nk σ i.fs t.fw
 ol:i.om.length=t.ob.length
 inn:∀ (x:Nat) (h:x<t.ob.length) (h':x<i.om.length),Fg σ i.om[x].1 t.ob[x].refs∧Fg σ i.om[x].2 t.ob[x].data
 nd:i.l.Nodup
 lt:∀ j ∈ i.l,j<σ.length
theorem Fg.AG {σ':Aa} {s:Ce} {l:List Int} (h:Fg σ s l) (hs:∀ b ∈ hs s,σ'[b]?=σ[b]?):Fg σ' s l:=by
 refine ⟨h.1,fun hn=>?_,fun a ha=>?_⟩
 ·obtain ⟨b,c,rfl,hc⟩:=h.2.1 hn
  exact ⟨b,c,rfl,(hs b (Ch.2 ⟨_,rfl,rfl⟩)).trans hc⟩
 ·obtain ⟨cs,T,w,h1,h2⟩:=h.2.2 a ha
  exact ⟨cs,T,w,(hs _ (Ch.2 ⟨a,ha,rfl⟩)).trans h1,h2⟩
theorem RI.Pg (i:RI):i.hb ∈ i.l:=List.mem_cons_self
theorem RI.Ai2 (i:RI) {b:Nat} (h:b ∈ hs i.bs):b ∈ i.l:=List.mem_cons_of_mem _ (List.mem_append.2 (.inl h))
theorem RI.Aje (i:RI) {b:Nat} (h:b ∈ hs i.os):b ∈ i.l:=List.mem_cons_of_mem _ (List.mem_append.2 (.inr (List.mem_append.2 (.inl h))))
theorem RI.Ai9 (i:RI) {b:Nat} (h:b ∈ hs i.fs):b ∈ i.l:=List.mem_cons_of_mem _ (List.mem_append.2 (.inr (List.mem_append.2 (.inr (List.mem_append.2 (.inl h))))))
theorem RI.Kw (i:RI) {b x:Nat} (hx:x<i.om.length) (h:b ∈ hs i.om[x].1∨b ∈ hs i.om[x].2):b ∈ i.l:=
 List.mem_cons_of_mem _ (List.mem_append.2 (.inr (List.mem_append.2 (.inr (List.mem_append.2 (.inr (List.mem_flatMap.2 ⟨_,List.getElem_mem hx,List.mem_append.2 h⟩)))))))
theorem K5.AG {σ':Aa} {i:RI} (h:K5 σ i t) (hs:∀ j ∈ i.l,σ'[j]?=σ[j]?) (hl:σ.length≤σ'.length):K5 σ' i t where
 hp:=(hs _ i.Pg).trans h.hp
 bl:=h.bl.AG fun a ha=>hs _ (i.Ai2 (Ch.2 ⟨a,ha,rfl⟩))
 ob:=h.ob.AG fun a ha=>hs _ (i.Aje (Ch.2 ⟨a,ha,rfl⟩))
 fw:=h.fw.AG fun a ha=>hs _ (i.Ai9 (Ch.2 ⟨a,ha,rfl⟩))
 ol:=h.ol
 inn:=fun x p q=>⟨(h.inn x p q).1.AG fun b hb=>hs _ (i.Kw q (.inl hb)),(h.inn x p q).2.AG fun b hb=>hs _ (i.Kw q (.inr hb))⟩
 nd:=h.nd
 lt:=fun j hj=>Nat.lt_of_lt_of_le (h.lt j hj) hl
theorem K5.app {i:RI} (h:K5 σ i t) (τ:Aa):K5 (σ++τ) i t:=h.AG (fun j hj=>List.getElem?_append_left (h.lt j hj)) (by simp)
abbrev Cq (i:RI):Option Addr:=some ⟨i.hb,0,none⟩
variable {i:RI}
theorem K5.K2 (h:K5 σ i t):Hx σ i.hb 0=some (i.bs.1,t.bl.length,t.bl.length):=by
 have:=h.bl.form
 simp only[Hx,Gi,h.hp]
 rw[this]; simp[H7]
theorem K5.GJ (h:K5 σ i t):Hx σ i.hb 1=some (i.os.1,t.ob.length,t.ob.length):=by
 have:=h.ob.form
 simp only[Hx,Gi,h.hp]
 rw[this]; simp[H7]
theorem K5.kr (h:K5 σ i t):Hx σ i.hb 2=some (i.fs.1,t.fw.length,t.fw.length):=by
 have:=h.fw.form
 simp only[Hx,Gi,h.hp]
 rw[this]; simp[H7]
theorem K5.uu (h:K5 σ i t):Dg .i64 σ i.hb 3=some t.born:=by simp[Dg,Gi,h.hp,Ml]
theorem ZF {E:TypeId} {sl:Ce} {l:List (Int × Int)} (h:EM E 2 σ sl l.length (Dd l)) {x:Nat} (hx:x<l.length):∃ b,sl.1=some ⟨b,0,none⟩∧Dg .i64 σ b (x*2)=some (l.getD x (0,0)).1∧Dg .i64 σ b (x*2+1)=some (l.getD x (0,0)).2∧σ[b]?=some (.cells (Dd l) E true):=by
 rcases h with ⟨h0,_⟩ | ⟨b,rfl,_,_,hc⟩
 ·omega
 ·obtain ⟨g0,g1⟩:=dA l x hx
  rw[Nat.mul_comm] at g0 g1
  refine ⟨b,rfl, ?_, ?_,hc⟩
  ·simp only[Dg,Gi,hc,g0,Option.bind_some,Aj]
  ·simp only[Dg,Gi,hc,g1,Option.bind_some,Aj]
structure Ain (σ:Aa) (b x:Nat) (o:RO) (p:Ce × Ce):Prop where
 l0:Dg .i64 σ b (x*8)=some o.addr
 l1:Dg .i64 σ b (x*8+1)=some o.id
 l2:Dg .i64 σ b (x*8+2)=some o.r
 l3:Dg .i64 σ b (x*8+3)=some o.d
 l4:Dg .i64 σ b (x*8+4)=some o.k
 l5:Hx σ b (x*8+5)=some (p.1.1,p.1.2.1,p.1.2.2)
 l6:Hx σ b (x*8+6)=some (p.2.1,p.2.2.1,p.2.2.2)
 l7:lO σ b (x*8+7)=some o.lU
theorem K5.obj (h:K5 σ i t) {x:Nat} (hx:x<t.ob.length):∃ b,i.os.1=some ⟨b,0,none⟩∧σ[b]?=some (.cells (Eb t.ob i.om) Ac true) ∧ ∀ (h':x<i.om.length),Ain σ b x t.ob[x] i.om[x]:=by
 rcases h.ob with ⟨h0,_⟩ | ⟨b,e,_,_,hc⟩
 ·omega
 ·refine ⟨b,by rw[e],hc,fun h'=>?_⟩
  have g:=fun q hq=>rZ t.ob i.om x hx h' q hq
  have g0:=g 0 (by decide)
  rw[Nat.add_zero] at g0
  constructor
  ·simp only[Dg,Gi,hc,g0]; rfl
  ·simp only[Dg,Gi,hc,g 1 (by decide)]; rfl
  ·simp only[Dg,Gi,hc,g 2 (by decide)]; rfl
  ·simp only[Dg,Gi,hc,g 3 (by decide)]; rfl
  ·simp only[Dg,Gi,hc,g 4 (by decide)]; rfl
  ·simp only[Hx,Gi,hc,g 5 (by decide)]; rfl
  ·simp only[Hx,Gi,hc,g 6 (by decide)]; rfl
  ·simp only[lO,Gi,hc,g 7 (by decide)]; rfl
theorem pz (k:Nat) (h:K5 σ i t) (hb:t.bl≠[]):AF (k+1) (Cq i) σ=some (.bool true,σ):=by
 have:0<t.bl.length:=List.length_pos_iff.2 hb
 rw[bZ,Qo]
 try simp only[sw,Ad,Af,Ae]
 simp only[oC,Option.bind_some,Bool.not_false,cond_true,Nat.zero_add,Nat.add_zero,h.K2]
 rw[decide_eq_true (by omega)]
theorem jg (k:Nat) (h:K5 σ i t) (hn:t.ob.length≤5000) (a:Int):∀ (n x f:Nat),x+n=t.ob.length→n<f→Fc k f (Cq i) a (x:Int) σ=some (match UI (t.ob.drop x) a with | some y=>(.ret,[.int .i64 ((x+y:Nat):Int)],σ) | none=>(.exit 0,[],σ))
 | 0,x,0,hx,hf=>by omega
 | 0,x,f+1,hx,hf=>by
   rw[NW,I6]
   try simp only[sw,Ad,Af,Ae]
   rw[List.drop_eq_nil_of_le (by omega)]
   have q:decide ((x:Int)<((t.ob.length:Nat):Int))=false:=decide_eq_false (by omega)
   simp only[Option.bind_some,Nat.zero_add,Nat.add_zero,h.GJ,q,cond_false,UI]
 | n+1,x,0,hx,hf=>by omega
 | n+1,x,f+1,hx,hf=>by
   have hxl:x<t.ob.length:=by omega
   have ih:=jg k h hn a n (x+1) f (by omega) (by omega)
   obtain ⟨b,eb,_,L⟩:=h.obj hxl
   have L:=L (by rw[h.ol]; exact hxl)
   rw[List.drop_eq_getElem_cons hxl,NW,I6]
   try simp only[sw,Ad,Af,Ae]
   rw[UI]
   have q:decide ((x:Int)<((t.ob.length:Nat):Int))=true:=decide_eq_true (by omega)
   have qx:(0≤(x:Int)∧(x:Int)<((t.ob.length:Nat):Int))=True:=eq_true (by omega)
   have w1:Cf ((x:Int)+1)=((x+1:Nat):Int):=Ak (by unfold AU; omega)
   simp only[Option.bind_some,Nat.zero_add,Nat.add_zero,h.GJ,q,cond_true,qx,if_true,eb,Int.toNat_natCast,L.l0,w1]
   by_cases e:t.ob[x].addr=a
   ·rw[if_pos e,beq_iff_eq.2 e]; simp only[cond_true,Nat.add_zero]
   ·rw[if_neg e,beq_eq_false_iff_ne.2 e]
    simp only[cond_false,ih]
    cases UI (t.ob.drop (x+1)) a with
    | none=>rfl
    | some y=>simp only[Option.map_some,show x+(y+1)=x+1+y from by omega]
def tH (l:List RO) (a:Int):Int:=match UI l a with
 | some x=>(x:Int)
 | none=>-1
theorem sx (k:Nat) (hk:5000≤k) (h:K5 σ i t) (hb:t.bl≠[]) (hn:t.ob.length≤5000) (a:Int):AN (k+2) (Cq i) a σ=some (.int .i64 (tH t.ob a),σ):=by
 have e:=jg (k+1) h hn a t.ob.length 0 (k+1) (by omega) (by omega)
 rw[List.drop_zero,show ((0:Nat):Int)=0 from rfl] at e
 rw[aO,OS]
 try simp only[sw,Ad,Af,Ae]
 simp only[pz k h hb,Option.bind_some,Ar,Bool.not_true,cond_false,e,tH]
 cases UI t.ob a with
 | none=>simp only[if_true]
 | some y=>simp only[reduceCtorEq,if_false,if_true,FR,Nat.zero_add]
theorem Ad2 {l:List RO} {a:Int}:decide (tH l a<0)=(UI l a).isNone:=by
 unfold tH
 cases UI l a with
 | none=>rfl
 | some y=>exact decide_eq_false (show ¬ ((y:Nat):Int)<0 by omega)
theorem Abt (k:Nat) (hk:5000≤k) (h:K5 σ i t) (hb:t.bl≠[]) (hn:t.ob.length≤5000) (a:Int):BW (k+3) (Cq i) a σ=some (.int .i64 (if (UI t.ob a).isSome then 0 else 4),σ):=by
 rw[aV,OZ]
 try simp only[sw,Ad,Af,Ae]
 simp only[pz (k+1) h hb,Option.bind_some,Ar,Bool.not_true,cond_false,sx k hk h hb hn a,Aj,Ad2]
 cases UI t.ob a <;> rfl
end Go.Proofs.YtjbledomkmdkmaaGreat
end
