/- The policy lines; Alloc of any policy.; The document's allocator: Free, place, bump, over.; The document's allocator: bump, over; gaps, choose. -/
import Derived.Test.YtlaplcglpnlieaaGreatP21
import Derived.Test.YtlaplcglpnlieaaGreatP19
set_option linter.unusedVariables false
set_option linter.unusedSimpArgs false
set_option linter.unusedSectionVars false
section
namespace Go.Proofs.YtlaplcglpnlieaaGreat
open Go Go.AX
noncomputable local instance uH:AK:=Au
local instance tD:Kn:=⟨true⟩
variable {σ:Aa} {i:C8} {m:HM} {ab:Nat} {a:AS}
theorem W9 {ls:List Bool}:∀ {f x:Nat} {g:Nat × Nat},g ∈ Sw ls f x→x≤g.1∧g.1<g.2∧g.2≤ls.length
 | 0,x,g,h=>by simp[Sw] at h
 | f+1,x,g,h=>by
   unfold Sw at h
   split at h
   ·rename_i hx
    rcases List.mem_append.1 h with h | h
    ·split at h
     ·rename_i q
      simp at h; subst h
      exact ⟨Nat.le_refl _,q,Yu ls 8 x (by omega)⟩
     ·simp at h
    ·have:=W9 h
     exact ⟨by omega,this.2⟩
   ·simp at h
theorem aG {lim:Int}:∀ {L:List Nat} {b x n:Nat},LK m lim L=some (b,x,n)→b ∈ L∧(x,n) ∈ Sw (C6 m (b:Int)) 9 0∧64*(b:Int)+8*(x:Int)≥lim
 | [],b,x,n,h=>by cases h
 | c::L,b,x,n,h=>by
   unfold LK at h
   cases hb:Re (C6 m (c:Int)) c lim 9 0 with
   | none=>
     rw[hb] at h
     have:=aG h
     exact ⟨List.mem_cons_of_mem _ this.1,this.2⟩
   | some g=>
     rw[hb] at h
     cases h
     unfold Re at hb
     have h1:=List.mem_of_find?_eq_some hb
     have h2:=List.find?_some hb
     exact ⟨List.mem_cons_self,h1,by simpa using h2⟩
theorem YM (hl:m.bls.length≤64):0≤(Ld m a).1∧(Ld m a).1≤9000∧0≤(Ld m a).2.1∧(Ld m a).2.1≤9000:=by
 unfold Ld
 split
 ·rename_i g hg
  obtain ⟨b,x,n⟩:=g
  obtain ⟨h1,h2,_⟩:=aG hg
  have h3:=(OQ.1 h1).1
  have h4:=W9 h2
  have h5:=Oe m (b:Int)
  dsimp only at *
  omega
 ·unfold WS
  split
  ·rename_i b hb
   have:=Ig hb
   dsimp only; omega
  ·dsimp only; omega
def Hw (m:HM) (a:AS) (w:Int):PR:=
 if a.l-a.c≥w then ((a.c,true),m,a.put false (a.c+w) a.l)
 else if w>8 then DS m a true w
 else if (Ld m a).2.2=true then (((Ld m a).1,true),Nu m a,a.put false ((Ld m a).1+w) (Ld m a).2.1)
 else ((0,false),Nu m a,a)
theorem aP (k:Nat) (hk:5000≤k) (h:Ag σ i m) (hA:Cc σ ab i a) (hab:ab ∉ i.l) (ho:a.ok) (hI:Inv m) (hI2:Inv2 m) (h0:B0 m) {w:Int} (hw:0≤w∧w≤1000):
  bU (CV (k+12) (D3 ab) w σ) σ i ab (Hw m a w):=by
 have hnt:=h.nt
 have h1:Ag (σ++[.cells [] F1 true]) i m:=h.app _
 have A1:Cc (σ++[.cells [] F1 true]) ab i a:=hA.app _
 have K1:Ck i ab σ (σ++[.cells [] F1 true]):=Ck.app _ _
 have e1:DD (k+11) (some ⟨ab,3,none⟩) w (σ++[.cells [] F1 true])=some (.bool (decide (a.l-a.c≥w)),σ++[.cells [] F1 true]):=nn (k+10) A1 ho false w
 have tk:∀ {μ:Aa} {a':AS},Cc μ ab i a'→a'.ok→De (k+11) (some ⟨ab,3,none⟩) w μ=some (.int .i64 a'.c,μ.set ab (.cells ((a'.put false (a'.c+w) a'.l).row i.hb) AV true)):=fun hA ho=>fj (k+10) hA ho false hw
 rw[Nh,Lh]
 simp only[An,Option.bind_some,Nat.zero_add,e1,As]
 unfold Hw
 by_cases q:a.l-a.c≥w
 ·rw[if_pos q]
  simp only[decide_eq_true q,cond_true,Option.bind_some,if_true,tk A1 ho,Ao]
  exact ⟨_,rfl,h1.RE hab _,A1.put _,K1.trans (Ck.set _ _)⟩
 rw[if_neg q]
 simp only[decide_eq_false q,cond_false]
 by_cases q2:w>8
 ·rw[if_pos q2]
  obtain ⟨σ2,e2,g2,a2,k2⟩:=cA (k+1) (by omega) h1 A1 hab ho true hw
  have e2':Bw (k+11) (D3 ab) (some ⟨ab,5,none⟩) w (σ++[.cells [] F1 true])=_:=e2
  simp only[decide_eq_true q2,cond_true,e2',Option.bind_some,Tl,show (Bk.ret=Bk.normal)=False from by simp,if_false,if_true,X7]
  exact ⟨σ2,rfl,g2,a2,K1.trans k2⟩
 rw[if_neg q2]
 obtain ⟨σ2,e2,g2,k2⟩:=pb (k+1) (by omega) h1 A1 hab ho hI hI2 h0
 have e2':CE (k+11) (D3 ab) (σ++[.cells [] F1 true])=_:=e2
 have A2:=A1.Wr k2 hab
 have K2:=K1.trans (Ck.of k2)
 have hr:=YM (m:=m) (a:=a) hnt
 simp only[decide_eq_false q2,cond_false,e2',Option.bind_some,Zg,List.length_cons,List.length_nil,List.head?_cons,List.tail_cons,Z2,As,pE,Nat.zero_add,Nat.reduceAdd,if_true]
 generalize Ld m a=v at *
 cases hv:v.2.2 with
 | false=>
   simp only[Bool.not_false,cond_true,Option.bind_some,show (Bk.ret=Bk.normal)=False from by simp,if_false,if_true,X7,Bool.false_eq_true]
   exact ⟨_,rfl,g2.app _,A2.app _,K2.trans (Ck.app _ _)⟩
 | true=>
   obtain ⟨l0,l1⟩:=js σ2 Em v.1 v.2.1
   have A3:=A2.app [.cells [.int .i64 v.1,.int .i64 v.2.1] Em true]
   have st3:=A3.rU false v.1 v.2.1
   rw[show mz false=3 from rfl] at st3
   have A4:=A3.put (a.put false v.1 v.2.1)
   have ho4:(a.put false v.1 v.2.1).ok:=ho.put false (by omega) (by omega)
   simp only[Bool.not_true,cond_false,l0,l1,Option.bind_some,st3,if_true,tk A4 ho4,Ao]
   exact ⟨_,rfl,((g2.app _).RE hab _).RE hab _,A4.put _,((K2.trans (Ck.app _ _)).trans (Ck.set _ _)).trans (Ck.set _ _)⟩
def YV (m:HM) (a:AS) (w:Int):PR:=
 if w>32 then Mi m a w
 else if a.p=0 then Ci m a (C5 m a.s 0 w.toNat)
 else if a.p=1 then kf m a w.toNat
 else if a.p=2 then YS m a w.toNat
 else if a.p=3 then DS m a false w
 else Hw m a w
def Z3 (m:HM) (a:AS) (r d c:Int):(Int × Int) × HM × AS:=BH m a r d c (YV m a (words r d c))
theorem Y0 (h:Inv m) (h2:Inv2 m) (hl:m.bls.length≤64) (ho:a.ok) {l:List (Nat × Nat)} (hg:∀ g ∈ l,g.1≤10000):fC m a (Ci m a l):=by
 have hadr:=bI (a:=a) hl hg
 unfold Ci at *
 split
 ·exact ⟨h,h2,rfl,rfl,hadr,rfl,rfl,ho,fun hh=>by cases hh⟩
 ·split
  ·rename_i b hb
   have:=Ig hb
   obtain ⟨k1,k2,k3,k4⟩:=ZU (b:=b) h h2 a.s
   exact ⟨k1,k2,k3,k4,by dsimp only; omega,rfl,rfl,ho,fun hh=>by cases hh⟩
  ·exact eU h h2 ho
theorem oP (h:Inv m) (h2:Inv2 m) (s:Int):Inv (Uy m s)∧Inv2 (Uy m s)∧(Uy m s).births=m.births∧(Uy m s).bls.length=m.bls.length:=by
 unfold Uy
 split
 ·exact ZU h h2 s
 ·exact ⟨h,h2,rfl,rfl⟩
theorem nq (h:Inv m) (h2:Inv2 m):Inv (Nu m a)∧Inv2 (Nu m a)∧(Nu m a).births=m.births∧(Nu m a).bls.length=m.bls.length:=by
 unfold Nu
 split
 ·exact ⟨h,h2,rfl,rfl⟩
 ·exact oP h h2 _
theorem nr (h:(Ld m a).2.2=false):Nu m a=m:=by
 unfold Ld Nu at *
 cases q:LK m a.l (Bo m a.s m.bls.length) with
 | some g=>rfl
 | none=>
   rw[q] at h
   unfold WS Uy at *
   cases q2:Qp m with
   | some b=>rw[q2] at h; cases h
   | none=>rfl
theorem XP:∀ {l:List (Nat × Nat)} {e:Nat × Nat},Ly l=some e→e ∈ l
 | [],e,h=>by cases h
 | g::l,e,h=>by
   unfold Ly at h
   cases hb:Ly l with
   | none=>rw[hb] at h; cases h; exact List.mem_cons_self
   | some x=>
     rw[hb] at h
     dsimp only at h
     split at h
     ·cases h; exact List.mem_cons_of_mem _ (XP hb)
     ·cases h; exact List.mem_cons_self
theorem cM (hl:m.bls.length≤64) {s:Int} {f w:Nat} (hw:1≤w):∀ g ∈ C5 m s f w,g.1+w≤4096:=by
 intro g hg
 unfold C5 at hg
 obtain ⟨g0,h0,hc⟩:=List.mem_filterMap.1 hg
 unfold ES at h0
 obtain ⟨b,_,hb⟩:=List.mem_flatMap.1 h0
 have:=cN hl _ g0 hb
 unfold Kw at hc
 split at hc
 ·cases hc; dsimp only; omega
 ·cases hc
theorem jK (hl:m.bls.length≤64) {l:List (Nat × Nat)} {w:Nat} (hw:w≤1000) (hg:∀ g ∈ l,g.1+w≤4096):0≤(Ci m a l).1.1∧(Ci m a l).1.1+w≤6000:=by
 unfold Ci
 split
 ·have:=hg _ (List.mem_cons_self); dsimp only; omega
 ·split
  ·rename_i b hb
   have:=Ig hb
   dsimp only; omega
  ·dsimp only; omega
theorem nT (h:Inv m) (h2:Inv2 m) (hl:m.bls.length≤64) (ho:a.ok) {w:Int} (hw:1≤w∧w≤1000):fC m a (YV m a w):=by
 have hc:=ho.c0
 have hll:=ho.l0
 have hg0:=cM (m:=m) hl (s:=a.s) (f:=0) (w:=w.toNat) (by omega)
 have hgc:=cM (m:=m) hl (s:=a.s) (f:=a.c.toNat) (w:=w.toNat) (by omega)
 have nx:fC m a (YS m a w.toNat):=by
  have hga:∀ g ∈ C5 m a.s a.c.toNat w.toNat++C5 m a.s 0 w.toNat,g.1+w.toNat≤4096:=fun g hg=>by
   rcases List.mem_append.1 hg with hg | hg
   ·exact hgc g hg
   ·exact hg0 g hg
  have hs:=Y0 (a:=a) h h2 hl ho (l:=C5 m a.s a.c.toNat w.toNat++C5 m a.s 0 w.toNat) (fun g hg=>by have:=hga g hg; omega)
  have hadr:=jK (a:=a) hl (by omega) hga
  unfold YS
  split
  ·exact ⟨hs.inv,hs.inv2,hs.brt,hs.len,hs.adr,gJ _ _ _ _,gI _ _ _ _,ho.put false (by omega) hll,fun hh=>by rename_i q; exact absurd (q.symm.trans hh) (by decide)⟩
  ·exact hs
 unfold YV
 split
 ·exact lG h h2 hl ho w
 split
 ·exact Y0 h h2 hl ho fun g hg=>by have:=hg0 g hg; omega
 split
 ·exact Y0 h h2 hl ho fun g hg=>by
   cases hb:Ly (C5 m a.s 0 w.toNat) with
   | none=>rw[hb] at hg; simp at hg
   | some e=>
     rw[hb] at hg; simp at hg; subst hg
     have:=hg0 g (XP hb); omega
 split
 ·exact nx
 split
 ·exact fT h h2 hl ho false (by omega)
 ·unfold Hw
  split
  ·exact ⟨h,h2,rfl,rfl,by dsimp only; omega,gJ _ _ _ _,gI _ _ _ _,ho.put false (by omega) (by omega),fun hh=>by cases hh⟩
  ·split
   ·exact fT h h2 hl ho true (by omega)
   ·obtain ⟨k1,k2,k3,k4⟩:=nq (a:=a) h h2
    have hr:=YM (m:=m) (a:=a) hl
    split
    ·exact ⟨k1,k2,k3,k4,by dsimp only; omega,gJ _ _ _ _,gI _ _ _ _,ho.put false (by omega) (by omega),fun hh=>by cases hh⟩
    ·rename_i q
     exact ⟨k1,k2,k3,k4,by dsimp only; omega,rfl,rfl,ho,fun _=>by rw[nr (by simpa using q)]⟩
theorem fU (k:Nat) (p:Option Addr) (n:Int) (σ:Aa):Cf k (.func (.method "dustcart/alloc.place") #[Wy 0] #[]) [.pointer p,.int .i64 n] σ=CU k p n σ:=by
 simp only[Cf,CU,Ab]; kernel_rfl
theorem iS (k:Nat) (p:Option Addr) (n:Int) (σ:Aa):Cf k (.func (.method "dustcart/alloc.place") #[Wy 1] #[]) [.pointer p,.int .i64 n] σ=Ds k p n σ:=by
 simp only[Cf,Ds,Ab]; kernel_rfl
theorem iU (k:Nat) (p:Option Addr) (n:Int) (σ:Aa):Cf k (.func (.method "dustcart/alloc.place") #[Wy 2] #[]) [.pointer p,.int .i64 n] σ=Du k p n σ:=by
 simp only[Cf,Du,Ab]; kernel_rfl
theorem fW (k:Nat) (p:Option Addr) (n:Int) (σ:Aa):Cf k (.func (.method "dustcart/alloc.place") #[Wy 4] #[]) [.pointer p,.int .i64 n] σ=CV k p n σ:=by
 simp only[Cf,CV,Ab]; kernel_rfl
theorem cp (k:Nat) (hk:50000≤k) (h:Ag σ i m) (hA:Cc σ ab i a) (hab:ab ∉ i.l) (ho:a.ok) (hI:Inv m) (hI2:Inv2 m) (h0:B0 m) (hb:m.births<1000000) (r d c:Int):
  pP (AM (k+13) (D3 ab) r d c σ) σ i ab (Z3 m a r d c):=by
 have pr:valid r d c=true→fC m a (YV m a (words r d c)):=fun hv=>by
  have:=JG hv
  exact nT hI hI2 h.nt ho (by omega)
 refine m7 k (by omega) h hA hab ho _ (fun hv σ0 g0 A0=>?_) (fun hv=>(pr hv).inv) (fun hv=>by rw[(pr hv).brt]; exact hb) (fun hv=>(pr hv).adr) (fun hv=>(pr hv).s)
 have hw:=JG hv
 obtain ⟨w,hww⟩:∃ w:Nat,words r d c=(w:Int):=⟨(words r d c).toNat,by omega⟩
 have p0:=ho.p0
 rw[hww]
 unfold YV rT
 rw[Int.toNat_natCast]
 by_cases q:(w:Int)>32
 ·rw[if_pos q,if_pos q,MI]
  exact nC (k+3) (by omega) g0 A0 hab (by omega)
 rw[if_neg q,if_neg q]
 by_cases q0:a.p=0
 ·rw[if_pos q0,q0,show (0:Int).toNat=0 from rfl,fU]
  exact ax k (by omega) g0 A0 hab ho hI h0 (by omega)
 rw[if_neg q0]
 by_cases q1:a.p=1
 ·rw[if_pos q1,q1,show (1:Int).toNat=1 from rfl,iS]
  exact bZ k hk g0 A0 hab ho hI hI2 h0 (by omega)
 rw[if_neg q1]
 by_cases q2:a.p=2
 ·rw[if_pos q2,q2,show (2:Int).toNat=2 from rfl,iU]
  exact ch k (by omega) g0 A0 hab ho hI h0 (by omega)
 rw[if_neg q2]
 by_cases q3:a.p=3
 ·rw[if_pos q3,q3,show (3:Int).toNat=3 from rfl,iT]
  exact ca (k+1) (by omega) g0 A0 hab ho (by omega)
 rw[if_neg q3,show a.p.toNat=4 from by omega,fW]
 exact aP k (by omega) g0 A0 hab ho hI hI2 h0 (by omega)
end Go.Proofs.YtlaplcglpnlieaaGreat
end
section
namespace Go.Proofs.YtlaplcglpnlieaaGreat
open Go Go.AX
noncomputable local instance uI:AK:=Au
local instance tE:Kn:=⟨true⟩
variable {σ:Aa} {m:HM} {t:RM} {j:RI} {rb:Nat} {a:AS}
structure XI (m:HM):Prop where
 inv:Inv m
 inv2:Inv2 m
 sh:Sh m
 fz:FZ m
 b0:B0 m
 nb:2≤m.bls.length
 nt:m.bls.length≤64
theorem XI.mV (h:XI m) (b c x y x' y':Int) (hx:x≠0) (hx':x'≠0∨c=1):XI (Ce m b c x y x' y').2:=by
 have k:=M5 h.inv h.inv2 b c x y x' y'
 exact ⟨k.inv,k.inv2,kW h.sh _ _ _ _ _ _,XR h.fz _ _ _ _ _ _ hx hx',(XQ m b c x y x' y').trans h.b0,by rw[k.len]; exact h.nb,by rw[k.len]; exact h.nt⟩
theorem jB (m:HM) (x r d c:Int):(Cw m x r d c).2.2.bls=m.bls:=by
 unfold Cw; split
 ·split <;> rfl
 ·rfl
theorem lW (h:Sh m) (x r d c:Int):Sh (Cw m x r d c).2.2:=by
 unfold Cw; split
 ·split
  ·obtain ⟨p,q,u⟩:=h
   exact ⟨by simp only[D4,List.length_set]; exact p,by simp only[D4]; rw[MG]; exact q,u⟩
  ·exact h
 ·exact h
theorem XI.place (h:XI m) (x r d c:Int):XI (Cw m x r d c).2.2:=by
 have k:=Rj h.inv h.inv2 h.sh x r d c
 have e:=jB m x r d c
 exact ⟨k.inv,k.inv2,lW h.sh _ _ _ _,Rz h.fz e,by unfold B0; rw[e]; exact h.b0,by rw[e]; exact h.nb,by rw[e]; exact h.nt⟩
theorem Vf (h:XI m) (b:Nat) (s:Int):XI (GG m b s):=h.mV _ _ _ _ _ _ (by decide) (.inr rfl)
theorem mS (h:XI m) (s:Int):XI (Uy m s):=by
 unfold Uy; split
 ·exact Vf h _ _
 ·exact h
theorem T5 (h:XI m) (l:List (Nat × Nat)):XI (Ci m a l).2.1:=by
 unfold Ci; split
 ·exact h
 ·split
  ·exact Vf h _ _
  ·exact h
theorem c9 (h:XI m) (v:Bool) (w:Int):XI (DS m a v w).2.1:=by
 unfold DS; split
 ·exact h
 ·split
  ·exact Vf h _ _
  ·exact h
theorem jq (h:XI m) (w:Int):XI (Mi m a w).2.1:=by
 unfold Mi; split
 ·exact h.mV _ _ _ _ _ _ (by decide) (.inl (by decide))
 ·exact h
theorem cU (h:XI m):XI (Nu m a):=by
 unfold Nu; split
 ·exact h
 ·exact mS h _
theorem jv (h:XI m) (w:Int):XI (Hw m a w).2.1:=by
 unfold Hw; split
 ·exact h
 ·split
  ·exact c9 h _ _
  ·split
   ·exact cU h
   ·exact cU h
theorem pk (h:XI m) (w:Int):XI (YV m a w).2.1:=by
 unfold YV; split
 ·exact jq h w
 split
 ·exact T5 h _
 split
 ·exact T5 h _
 split
 ·unfold YS; split
  ·exact T5 h _
  ·exact T5 h _
 split
 ·exact c9 h _ _
 ·exact jv h w
def Kk (σ:Aa) (rb:Nat) (j:RI) (a:AS):Prop:=σ[rb]?=some (.cells (a.row j.hb) Cx true)
theorem Kk.X9 (h:Kk σ rb j a):Jb σ rb 0=some (Ca j):=by unfold Kk AS.row at h; simp[Jb,Gs,h,VD]
theorem Kk.l1 (h:Kk σ rb j a):Ai .i64 σ rb 1=some a.s:=by unfold Kk AS.row at h; simp[Ai,Gs,h,BF]
theorem Kk.l2 (h:Kk σ rb j a):Ai .i64 σ rb 2=some a.p:=by unfold Kk AS.row at h; simp[Ai,Gs,h,BF]
theorem Kk.l3 (h:Kk σ rb j a):Ai .i64 σ rb 3=some a.c:=by unfold Kk AS.row at h; simp[Ai,Gs,h,BF]
theorem Kk.l4 (h:Kk σ rb j a):Ai .i64 σ rb 4=some a.l:=by unfold Kk AS.row at h; simp[Ai,Gs,h,BF]
theorem Kk.l5 (h:Kk σ rb j a):Ai .i64 σ rb 5=some a.oc:=by unfold Kk AS.row at h; simp[Ai,Gs,h,BF]
theorem Kk.l6 (h:Kk σ rb j a):Ai .i64 σ rb 6=some a.ol:=by unfold Kk AS.row at h; simp[Ai,Gs,h,BF]
theorem Kk.Dd {σ':Aa} {j':RI} (h:Kk σ rb j a) (hs:σ'[rb]?=σ[rb]?) (hj:j'.hb=j.hb):Kk σ' rb j' a:=by unfold Kk; rw[hs,hj]; exact h
theorem Kk.put (h:Kk σ rb j a) (a':AS):Kk (σ.set rb (.cells (a'.row j.hb) Cx true)) rb j a':=by
 unfold Kk; rw[List.getElem?_set_self (Ae h)]
theorem Kk.Gz (h:Kk σ rb j a) (o:Nat) (v:Value) (a':AS) (hv:(a.row j.hb).set o v=a'.row j.hb) (hl:o<7):AX.Gz σ rb o v=some (σ.set rb (.cells (a'.row j.hb) Cx true)):=by
 have h':=h
 unfold Kk at h'
 simp only[AX.Gz,h']
 rw[if_pos (by simpa [AS.row] using hl),hv]
structure TA (σ:Aa) (j:RI) (rb:Nat) (m:HM) (t:RM) (a:AS):Prop where
 g:RG σ j m t
 P:NM m
 M:XI m
 al:Kk σ rb j a
 off:rb ∉ j.l
theorem TA.app (h:TA σ j rb m t a) (τ:Aa):TA (σ++τ) j rb m t a:=⟨h.g.app τ,h.P,h.M,h.al.Dd (List.getElem?_append_left (Ae h.al)) rfl,h.off⟩
structure Eg (j j':RI) (rb:Nat) (σ σ':Aa):Prop where
 len:σ.length≤σ'.length
 same:∀ q,q<σ.length→q ∉ j.l→q≠rb→σ'[q]?=σ[q]?
 new:∀ q,q ∈ j'.l→q ∈ j.l∨σ.length≤q
 hb:j'.hb=j.hb
theorem Eg.of {j':RI} {σ':Aa} (h:GV j j' σ σ'):Eg j j' rb σ σ':=⟨h.len,fun q h1 h2 _=>h.same q h1 h2,h.new,h.hb⟩
theorem Eg.app (j:RI) (σ τ:Aa):Eg j j rb σ (σ++τ):=.of (GV.app j σ τ)
theorem Eg.refl (j:RI) (σ:Aa):Eg j j rb σ σ:=.of (GV.refl j σ)
theorem Eg.set (j:RI) (σ:Aa) (o:AP):Eg j j rb σ (σ.set rb o):=⟨by simp,fun q _ _ h=>List.getElem?_set_ne fun e=>h e.symm,fun _ h=>.inl h,rfl⟩
theorem Eg.trans {x y z:Aa} {j j' j'':RI} (h:Eg j j' rb x y) (g:Eg j' j'' rb y z):Eg j j'' rb x z:=by
 refine ⟨Nat.le_trans h.len g.len,fun q h1 h2 h3=>?_,fun q hq=>?_,g.hb.trans h.hb⟩
 ·refine (g.same q (Nat.lt_of_lt_of_le h1 h.len) (fun hm=>?_) h3).trans (h.same q h1 h2 h3)
  rcases h.new q hm with h4 | h4
  ·exact h2 h4
  ·omega
 ·rcases g.new q hq with h1 | h1
  ·exact h.new q h1
  ·exact .inr (Nat.le_trans h.len h1)
theorem TA.RE (h:TA σ j rb m t a) (a':AS):TA (σ.set rb (.cells (a'.row j.hb) Cx true)) j rb m t a':=
 ⟨h.g.Dd (fun q hq=>List.getElem?_set_ne fun e=>h.off (by rw[e]; exact hq)) (by simp),h.P,h.M,h.al.put a',h.off⟩
def Rs (mm:Option (Value × Aa)) (σ:Aa) (j:RI) (rb:Nat) (v:Value) (m':HM) (a':AS):Prop:=
 ∃ σ' j' t',mm=some (v,σ')∧TA σ' j' rb m' t' a'∧Eg j j' rb σ σ'
theorem TA.qz (h:TA σ j rb m t a) {mm:Option (Value × Aa)} {v:Value} {m':HM} (hg:Ho mm σ j v m') (hM:XI m'):Rs mm σ j rb v m' a:=by
 obtain ⟨σ',j',t',e,r,s,p,k⟩:=hg
 refine ⟨σ',j',t',e,⟨⟨r,s,hM.inv,hM.inv2,hM.sh.wl,hM.nb,hM.nt⟩,p,hM,h.al.Dd (k.same rb (Ae h.al) h.off) k.hb,fun hm=>?_⟩,.of k⟩
 rcases k.new rb hm with h1 | h1
 ·exact h.off h1
 ·have:=Ae h.al; omega
theorem se (x:Addr):SE P Fv (.pointer (some x)) (.pointer none)=some false:=by kernel_rfl
theorem dx (k:Nat) (h:TA σ j rb m t a):CH (k+2) (D3 rb) σ=some (.bool true,σ):=by
 rw[QG,MV]
 simp only[se,Option.bind_some,Bool.not_false,cond_true,Nat.zero_add,Nat.add_zero,h.al.X9,Iv k h.g,As]
def iD (m:HM) (c:Nat):Nat→Nat→Option Nat
 | 0,_=>none
 | n+1,x=>if x+c≤m.bls.length then (if Im m.bls x c 0=none then some x else iD m c n (x+1)) else none
theorem gq {c:Nat}:∀ {n x b:Nat},iD m c n x=some b→x≤b∧b+c≤m.bls.length
 | 0,x,b,h=>by cases h
 | n+1,x,b,h=>by
   unfold iD at h
   split at h
   ·split at h
    ·cases h; exact ⟨Nat.le_refl _,by assumption⟩
    ·have:=gq h; omega
   ·cases h
theorem gz {c:Nat} {s:Int} (hs:0≤s∧s<8) (hc:1≤c):∀ (n x:Nat),1≤x→kr m c s n x=iD m c n x
 | 0,x,_=>rfl
 | n+1,x,hx=>by
   unfold kr iD
   by_cases q:x+c≤m.bls.length
   ·rw[if_pos q,if_pos q,gz hs hc n (x+1) (by omega)]
    have e:(1≤(x:Int)∧(x:Int)<(m.bls.length:Int)∧(1:Int)≤(c:Int)∧(c:Int)≤(m.bls.length:Int)-(x:Int)∧UP s=true):=⟨by omega,by omega,by omega,by omega,by unfold UP; simpa using hs⟩
    unfold Ce
    rw[if_pos e,Int.toNat_natCast,Int.toNat_natCast]
    by_cases q2:Im m.bls x c 0=none
    ·rw[if_pos q2,if_pos q2,if_pos rfl]
    ·rw[if_neg q2,if_neg q2,if_neg (by dsimp only; decide)]
   ·rw[if_neg q,if_neg q]
theorem az:∀ (n x:Nat),x+n=m.bls.length→Sj m n x=iD m 1 (n+1) x
 | 0,x,h=>by unfold Sj iD; rw[if_neg (by omega)]
 | n+1,x,h=>by
   rw[Sj,iD,if_pos (show x+1≤m.bls.length by omega),az n (x+1) (by omega)]
   by_cases q:(m.bls.getD x (0,0)).1=0∧(m.bls.getD x (0,0)).2=0
   ·rw[if_pos q,if_pos (show Im m.bls x 1 0=none by simp only[Im,Nat.add_zero,q,and_self,if_true])]
   ·rw[if_neg q,if_neg (show ¬ Im m.bls x 1 0=none by simp only[Im,Nat.add_zero,if_neg q]; simp)]
theorem Wo (h:1≤m.bls.length):Qp m=iD m 1 m.bls.length 1:=by
 unfold Qp
 rw[az _ _ (by omega)]
 congr 1; omega
theorem aB (k:Nat) (h:RG σ j m t) (hz:FZ m) {c x:Nat} (hx:x+c≤m.bls.length):∀ (n y f:Nat),y+n=c→n<f→Im m.bls x y 0=none →
  ∃ r:Nat,H0 (k+2) f (Ca j) (c:Int) (x:Int) (y:Int) σ=some (.exit 2,[.int .i64 (r:Int)],σ)∧(r=c↔Im m.bls x c 0=none)∧r≤c
 | n,y,0,hy,hf,hu=>by omega
 | 0,y,f+1,hy,hf,hu=>by
   rw[Qo,Pe]
   obtain rfl:y=c:=by omega
   exact ⟨y,by simp only[decide_eq_false (Int.lt_irrefl _),cond_false,Option.bind_some],⟨fun _=>hu,fun _=>rfl⟩,Nat.le_refl _⟩
 | n+1,y,f+1,hy,hf,hu=>by
   have hnt:=h.nt
   rw[Qo,Pe]
   have w1:Ac ((x:Int)+(y:Int))=((x+y:Nat):Int):=Ad (by unfold AY; omega)
   have w2:Ac ((y:Int)+1)=((y+1:Nat):Int):=Ad (by unfold AY; omega)
   have es:Ii m ((x+y:Nat):Int)=(m.bls.getD (x+y) (0,0)).1:=by
    unfold Ii; rw[if_pos (by omega),Int.toNat_natCast]
   simp only[decide_eq_true (show (y:Int)<(c:Int) by omega),cond_true,w1,Ss k h,es,Option.bind_some,Ao]
   by_cases q:(m.bls.getD (x+y) (0,0)).1=0
   ·have hu':Im m.bls x (y+1) 0=none:=by
     rw[Vt hz] at hu ⊢
     intro c' c1 c2
     by_cases q2:c'=y
     ·rw[q2]; exact q
     ·exact hu c' c1 (by omega)
    obtain ⟨r,e1,e2,e3⟩:=aB k h hz hx n (y+1) f (by omega) (by omega) hu'
    exact ⟨r,by simp only[show ((m.bls.getD (x+y) (0,0)).1 == 0)=true from by simpa using q,cond_true,w2,e1],e2,e3⟩
   ·refine ⟨y,by simp only[show ((m.bls.getD (x+y) (0,0)).1 == 0)=false from by simpa using q,cond_false],⟨fun hh=>by omega,fun hh=>?_⟩,by omega⟩
    rw[Vt hz] at hh
    exact absurd (hh y (by omega) (by omega)) q
theorem aA (k:Nat) (hk:5000≤k) (h:RG σ j m t) (hz:FZ m) {c:Nat} (hc:c≤100):∀ (n x f:Nat),m.bls.length<x+n→x≤200→n<f →
  Hz (k+2) f (Ca j) (c:Int) (x:Int) σ=some (match iD m c n x with | some b=>(.ret,[.int .i64 (b:Int)],σ) | none=>(.exit 0,[],σ))
 | n,x,0,hx,hx2,hf=>by omega
 | n,x,f+1,hx,hx2,hf=>by
   have hnt:=h.nt
   have w1:Ac ((x:Int)+(c:Int))=((x+c:Nat):Int):=Ad (by unfold AY; omega)
   have w2:Ac ((x:Int)+1)=((x+1:Nat):Int):=Ad (by unfold AY; omega)
   have eb:Br (k+2) (Ca j) σ=_:=Q0 k h
   rw[Wk,TB]
   simp only[eb,Option.bind_some,Ao,w1]
   by_cases q:x+c≤m.bls.length
   ·obtain ⟨n,rfl⟩:∃ n',n=n'+1:=⟨n-1,by omega⟩
    obtain ⟨r,e1,e2,e3⟩:=aB k h hz q c 0 (k+2) (by omega) (by omega) rfl
    rw[show ((0:Nat):Int)=0 from rfl] at e1
    simp only[decide_eq_true (show ((x+c:Nat):Int)≤((m.bls.length:Nat):Int) by omega),cond_true,e1,Option.bind_some,if_true,DZ,iD,if_pos q,w2]
    by_cases q2:Im m.bls x c 0=none
    ·rw[if_pos q2,show ((r:Int) == (c:Int))=true from by have:=e2.2 q2; simp[this]]; rfl
    ·rw[if_neg q2,show ((r:Int) == (c:Int))=false from by rw[beq_eq_false_iff_ne]; intro hh; exact q2 (e2.1 (by omega))]
     simp only[cond_false]
     exact aA k hk h hz hc n (x+1) f (by omega) (by omega) (by omega)
   ·have z:iD m c n x=none:=by
     cases n with
     | zero=>rfl
     | succ n=>rw[iD,if_neg q]
    simp only[decide_eq_false (show ¬ ((x+c:Nat):Int)≤((m.bls.length:Nat):Int) by omega),cond_false,z]
theorem Z0 (k:Nat) (hk:5000≤k) (h:RG σ j m t) (hz:FZ m) {c:Nat} (hc:c≤100):Es (k+3) (Ca j) (c:Int) σ=some (.int .i64 (match iD m c m.bls.length 1 with | some b=>(b:Int) | none=>0),σ):=by
 have hnt:=h.nt
 have e:=aA k hk h hz hc m.bls.length 1 (k+2) (by omega) (by omega) (by omega)
 rw[show ((1:Nat):Int)=1 from rfl] at e
 rw[Zs,WR]
 simp only[e,Option.bind_some]
 cases iD m c m.bls.length 1 with
 | none=>simp only[if_true]
 | some b=>simp only[show (Bk.ret=Bk.exit 0)=False from by simp,if_false,if_true,DZ]
def fu (m:HM) (s x:Int) (r d c:Int):(Int × Int) × HM:=
 if ¬ words r d c>32∧Ui m (x.tdiv 64)≠s then ((0,6),m)
 else if (Cw m x r d c).2.1=0 then ((x,0),(Cw m x r d c).2.2) else ((0,6),(Cw m x r d c).2.2)
theorem oy (m:HM) (b:Int):WD m b=Ui m b:=rfl
theorem Su (k:Nat) (hk:5000≤k) (h:TA σ j rb m t a) {x:Int} (hx:0≤x∧x≤100000) (bl:Nat) {r d c:Int} (hb:m.births<1000000) {m1:HM} (hm1:m1=if 0<bl then GG m bl a.s else m):
  Rs (Aw (k+6) (D3 rb) x (bl:Int) r d c σ) σ j rb (.tuple #[.int .i64 (fu m1 a.s x r d c).1.1,.int .i64 (fu m1 a.s x r d c).1.2]) (fu m1 a.s x r d c).2 a:=by
 have bx:∀ {μ:Aa} {q:Nat},μ[q]?=some (AP.cells [Value.int .i64 r,.int .i64 d,.int .i64 c] Al true)→Ai .i64 μ q 0=some r∧Ai .i64 μ q 1=some d∧Ai .i64 μ q 2=some c:=by
  intro μ q hm; simp[Ai,Gs,hm,BF]
 have hlt:=Ae h.al
 have hns:σ.length ∉ j.l:=fun hm=>Nat.lt_irrefl _ (h.g.at_.lt _ hm)
 obtain ⟨μ0,hμ0⟩:∃ μ0,σ++[AP.cells [Value.int .i64 r,.int .i64 d,.int .i64 c] Al true]=μ0:=⟨_,rfl⟩
 have h0:TA μ0 j rb m t a:=hμ0 ▸ h.app _
 have K0:Eg j j rb σ μ0:=hμ0 ▸ Eg.app j σ _
 have S0:μ0[σ.length]?=some (AP.cells [Value.int .i64 r,.int .i64 d,.int .i64 c] Al true):=by rw[← hμ0]; simp
 obtain ⟨μ1,j1,t1,e1,h1,K1,S1⟩:∃ μ1 j1 t1,((bif decide ((bl:Int)>0) then ((CN (k+5) (Ca j) (bl:Int) a.s μ0).bind fun r7=>(BF .i64 r7.1).bind fun n8=>some (Bk.normal,[],r7.2)) else (some (Bk.normal,[],μ0)):Option Ay))=some (.normal,[],μ1)∧TA μ1 j1 rb m1 t1 a∧Eg j j1 rb σ μ1∧μ1[σ.length]?=some (AP.cells [Value.int .i64 r,.int .i64 d,.int .i64 c] Al true):=by
  by_cases q:0<bl
  ·rw[if_pos q] at hm1
   obtain ⟨μ1,j1,t1,e1,h1,K1⟩:=h0.qz (dq (k+3) h0.g h0.P h0.M.fz (bl:Int) a.s) (by rw[show (Ce m (bl:Int) 1 1 a.s 0 0).2=GG m bl a.s from rfl]; exact Vf h.M _ _)
   refine ⟨μ1,j1,t1, ?_,by rw[hm1]; exact h1,K0.trans K1,by rw[K1.same _ (Ae S0) hns (by omega)]; exact S0⟩
   rw[decide_eq_true (show (bl:Int)>0 by omega)]
   simp only[cond_true,e1,Option.bind_some,Ao]
  ·rw[if_neg q] at hm1
   exact ⟨μ0,j,t,by rw[decide_eq_false (show ¬ (bl:Int)>0 by omega)]; rfl,by rw[hm1]; exact h0,K0,S0⟩
 have hM1:=h1.M
 have hb1:m1.births<1000000:=by
  rw[hm1]; split
  ·unfold GG; rw[SW]; exact hb
  ·exact hb
 obtain ⟨τ2,e2⟩:=Yn (k+2) r d c μ1
 obtain ⟨μ2,hμ2⟩:∃ μ2,μ1++τ2=μ2:=⟨_,rfl⟩
 rw[hμ2] at e2
 have e2':EJ (k+5) r d c μ1=_:=e2
 have h2:TA μ2 j1 rb m1 t1 a:=hμ2 ▸ h1.app _
 have K2:Eg j j1 rb σ μ2:=hμ2 ▸ K1.trans (Eg.app _ _ _)
 have S2:μ2[σ.length]?=some (AP.cells [Value.int .i64 r,.int .i64 d,.int .i64 c] Al true):=by rw[← hμ2,List.getElem?_append_left (Ae S1)]; exact S1
 obtain ⟨a0,a1,a2⟩:=bx S1
 obtain ⟨c0,c1,c2⟩:=bx S2
 have wq:Ac (x.tdiv 64)=x.tdiv 64:=by
  rw[Int.tdiv_eq_ediv_of_nonneg hx.1]; exact Ad (by unfold AY; omega)
 have es:BV (k+5) (Ca j1) (x.tdiv 64) μ2=_:=Yo (k+3) h2.g (x.tdiv 64)
 obtain ⟨μ3,j3,t3,e3,h3,K3⟩:=h2.qz (dw k hk h2.g h2.P hM1.sh hb1 x r d c) (hM1.place x r d c)
 rw[Qn,M4]
 unfold fu
 simp only[An,hμ0,Option.bind_some,Nat.zero_add,Nat.add_zero,h0.al.X9,h0.al.l1,e1,if_true,Nat.reduceAdd,a0,a1,a2,e2',As,h2.al.X9,wq,es,Ao,h2.al.l1,oy,c0,c1,c2,e3,Ew]
 rw[if_neg (show ¬ (64:Int)=0 by decide)]
 have fin:Rs (bif (Cw m1 x r d c).2.1 != 0 then (some (.tuple #[.int .i64 (0:Int),.int .i64 (6:Int)],μ3)) else (some (.tuple #[.int .i64 x,.int .i64 (0:Int)],μ3))) σ j rb (.tuple #[.int .i64 (if (Cw m1 x r d c).2.1=0 then ((x,(0:Int)),(Cw m1 x r d c).2.2) else ((0,6),(Cw m1 x r d c).2.2)).1.1,.int .i64 (if (Cw m1 x r d c).2.1=0 then ((x,(0:Int)),(Cw m1 x r d c).2.2) else ((0,6),(Cw m1 x r d c).2.2)).1.2]) (if (Cw m1 x r d c).2.1=0 then ((x,(0:Int)),(Cw m1 x r d c).2.2) else ((0,6),(Cw m1 x r d c).2.2)).2 a:=by
  by_cases q:(Cw m1 x r d c).2.1=0
  ·rw[if_pos q,show ((Cw m1 x r d c).2.1 != 0)=false from by simpa using q]
   exact ⟨μ3,j3,t3,rfl,h3,K2.trans K3⟩
  ·rw[if_neg q,show ((Cw m1 x r d c).2.1 != 0)=true from by simpa using q]
   exact ⟨μ3,j3,t3,rfl,h3,K2.trans K3⟩
 by_cases q:words r d c>32
 ·rw[if_neg (show ¬ (¬ words r d c>32∧Ui m1 (x.tdiv 64)≠a.s) from fun hh=>hh.1 q)]
  simp only[decide_eq_true q,Bool.not_true,cond_false,Option.bind_some,h2.al.X9,c0,c1,c2,e3,Ew]
  exact fin
 ·by_cases q2:Ui m1 (x.tdiv 64)=a.s
  ·rw[if_neg (show ¬ (¬ words r d c>32∧Ui m1 (x.tdiv 64)≠a.s) from fun hh=>hh.2 q2)]
   simp only[decide_eq_false q,Bool.not_false,cond_true,Option.bind_some,q2,bne_self_eq_false,cond_false,h2.al.X9,c0,c1,c2,e3,Ew]
   exact fin
  ·rw[if_pos (show (¬ words r d c>32∧Ui m1 (x.tdiv 64)≠a.s) from ⟨q,q2⟩)]
   simp only[decide_eq_false q,Bool.not_false,cond_true,Option.bind_some,show (Ui m1 (x.tdiv 64) != a.s)=true from by simpa using q2]
   exact ⟨μ2,j1,t1,rfl,h2,K2⟩
theorem Vn {m1:HM} {r d c:Int} {pr:PR} (hv:valid r d c=true) (hw:¬ words r d c>32) (ho:pr.1.2=true) (hm:pr.2.1=m1):BH m a r d c pr=((fu m1 a.s pr.1.1 r d c).1,(fu m1 a.s pr.1.1 r d c).2,if (fu m1 a.s pr.1.1 r d c).1.2=0 then pr.2.2 else a):=by
 unfold BH fu
 rw[if_pos hv,if_pos ho,hm]
 by_cases q:Ui m1 (pr.1.1.tdiv 64)=a.s
 ·rw[if_pos q,if_neg (show ¬ (¬ words r d c>32∧Ui m1 (pr.1.1.tdiv 64)≠a.s) from fun hh=>hh.2 q)]
  by_cases q2:(Cw m1 pr.1.1 r d c).2.1=0
  ·rw[if_pos q2,if_pos q2,if_pos rfl]
  ·rw[if_neg q2,if_neg q2,if_neg (by dsimp only; decide)]
 ·rw[if_neg q,if_pos ⟨hw,q⟩,if_neg (by dsimp only; decide)]
end Go.Proofs.YtlaplcglpnlieaaGreat
end
section
namespace Go.Proofs.YtlaplcglpnlieaaGreat
open Go Go.AX
noncomputable local instance uJ:AK:=Au
local instance tF:Kn:=⟨true⟩
variable {σ:Aa} {m:HM} {t:RM} {j:RI} {rb:Nat} {a:AS}
theorem bg (k:Nat) (hk:5000≤k) (h:TA σ j rb m t a) (ho:a.ok) {r d c w:Int} (hv:valid r d c=true) (hw:words r d c=w) (hw2:¬ w>32) (hb:m.births<1000000):
  Rs (Dx (k+8) (D3 rb) r d c w σ) σ j rb (.tuple #[.int .i64 (BH m a r d c (DS m a false w)).1.1,.int .i64 (BH m a r d c (DS m a false w)).1.2]) (BH m a r d c (DS m a false w)).2.1 (BH m a r d c (DS m a false w)).2.2:=by
 have hc0:=ho.c0; have hl0:=ho.l0; have hoc:=ho.oc0; have hol:=ho.ol0
 have hnt:=h.g.nt; have hnb:=h.g.nb
 have hwp:=JG hv
 rw[hw] at hwp
 have bx:∀ {μ:Aa} {q:Nat},μ[q]?=some (AP.cells [Value.int .i64 r,.int .i64 d,.int .i64 c] Al true)→Ai .i64 μ q 0=some r∧Ai .i64 μ q 1=some d∧Ai .i64 μ q 2=some c:=by
  intro μ q hm; simp[Ai,Gs,hm,BF]
 obtain ⟨μ0,hμ0⟩:∃ μ0,σ++[AP.cells [Value.int .i64 r,.int .i64 d,.int .i64 c] Al true]=μ0:=⟨_,rfl⟩
 have h0:TA μ0 j rb m t a:=hμ0 ▸ h.app _
 have K0:Eg j j rb σ μ0:=hμ0 ▸ Eg.app j σ _
 have S0:μ0[σ.length]?=some (AP.cells [Value.int .i64 r,.int .i64 d,.int .i64 c] Al true):=by rw[← hμ0]; simp
 obtain ⟨b0,b1,b2⟩:=bx S0
 have ef:=Z0 (k+4) (by omega) h0.g h0.M.fz (c:=1) (by decide)
 rw[← Wo (by omega),show ((1:Nat):Int)=1 from rfl] at ef
 have ef':Es (k+7) (Ca j) 1 μ0=_:=ef
 have wd:Ac (a.l-a.c)=a.l-a.c:=Ad (by unfold AY; omega)
 have fin:∀ (x e:Int) (bl:Nat) (m1:HM),0≤x∧x≤20000→m1=(if 0<bl then GG m bl a.s else m)→DS m a false w=((x,true),m1,a.put false (x+w) e)→Rs ((Aw (k+7) (D3 rb) x (bl:Int) r d c μ0).bind fun r18=>Gt r18.1 fun n19 n20=>(bif n20 == (0:Int) then ((Gz r18.2 rb 3 (.int .i64 (Ac (x+w)))).bind fun s22=>(Gz s22 rb 4 (.int .i64 e)).bind fun s24=>some (.normal,[],s24)) else (some (.normal,[],r18.2)):Option Ay).bind fun r25=>if r25.1 = .normal then (some (.tuple #[.int .i64 n19,.int .i64 n20],r25.2.2)) else none) σ j rb (.tuple #[.int .i64 (BH m a r d c (DS m a false w)).1.1,.int .i64 (BH m a r d c (DS m a false w)).1.2]) (BH m a r d c (DS m a false w)).2.1 (BH m a r d c (DS m a false w)).2.2:=by
  intro x e bl m1 hx hm1 hpr
  rw[hpr,Vn (m1:=m1) hv (by rw[hw]; exact hw2) rfl rfl]
  obtain ⟨μ1,j1,t1,e1,h1,K1⟩:=Su (k+1) (by omega) h0 (x:=x) (by omega) bl (r:=r) (d:=d) (c:=c) hb hm1
  dsimp only
  generalize fu m1 a.s x r d c=pl at *
  have e1':Aw (k+7) (D3 rb) x (bl:Int) r d c μ0=_:=e1
  simp only[e1',Option.bind_some,Ew,Ad (show AY (x+w) by unfold AY; omega)]
  by_cases q:pl.1.2=0
  ·rw[if_pos q]
   have s1:=h1.al.Gz 3 (.int .i64 (x+w)) { a with c:=x+w } rfl (by decide)
   have h2:=h1.RE { a with c:=x+w }
   have s2:=h2.al.Gz 4 (.int .i64 e) (a.put false (x+w) e) rfl (by decide)
   have h3:=h2.RE (a.put false (x+w) e)
   simp only[show (pl.1.2 == 0)=true from by simpa using q,cond_true,s1,Option.bind_some,s2,if_true]
   exact ⟨_,j1,t1,rfl,h3,((K0.trans K1).trans (Eg.set _ _ _)).trans (Eg.set _ _ _)⟩
  ·rw[if_neg q]
   simp only[show (pl.1.2 == 0)=false from by simpa using q,cond_false,Option.bind_some,if_true]
   exact ⟨μ1,j1,t1,rfl,h1,K0.trans K1⟩
 rw[QH,MW]
 simp only[An,hμ0,Option.bind_some,Nat.zero_add,Nat.add_zero,Nat.reduceAdd,h0.al.l3,h0.al.l4,wd,h0.al.X9,ef',Ao]
 by_cases q:a.l-a.c≥w
 ·have hpr:DS m a false w=((a.c,true),m,a.put false (a.c+w) a.l):=by
   unfold DS; rw[if_pos (show a.li false-a.cu false≥w from q)]; rfl
  have:=fin a.c a.l 0 m (by omega) rfl hpr
  simp only[decide_eq_false (show ¬ a.l-a.c<w by omega),cond_false,Option.bind_some,if_true,X6,b0,b1,b2]
  exact this
 ·simp only[decide_eq_true (show a.l-a.c<w by omega),cond_true]
  cases hf:Qp m with
  | none=>
    have hpr:DS m a false w=((0,false),m,a):=by
     unfold DS; rw[if_neg (show ¬ a.li false-a.cu false≥w from q),hf]
    have hX:BH m a r d c (DS m a false w)=((0,6),m,a):=by
     unfold BH; rw[if_pos hv,hpr,if_neg (by dsimp only; decide)]
    rw[hX]
    simp only[beq_self_eq_true,cond_true,Option.bind_some,show (Bk.ret=Bk.normal)=False from by simp,if_false,if_true,GK]
    exact ⟨μ0,j,t,rfl,h0,K0⟩
  | some b=>
    have hb1:=Ig hf
    have hpr:DS m a false w=((64*(b:Int),true),GG m b a.s,a.put false (64*(b:Int)+w) (64*(b:Int)+64)):=by
     unfold DS; rw[if_neg (show ¬ a.li false-a.cu false≥w from q),hf]
    have:=fin (64*(b:Int)) (64*(b:Int)+64) b (GG m b a.s) (by omega) (by rw[if_pos (by omega)]) hpr
    have w1:Ac ((b:Int)*64)=64*(b:Int):=by rw[Ad (by unfold AY; omega)]; omega
    have w2:Ac ((b:Int)+1)=(b:Int)+1:=Ad (by unfold AY; omega)
    have w3:Ac (((b:Int)+1)*64)=64*(b:Int)+64:=by rw[Ad (by unfold AY; omega)]; omega
    simp only[show (((b:Nat):Int) == 0)=false from by rw[beq_eq_false_iff_ne]; omega,cond_false,w1,w2,w3,Option.bind_some,if_true,X6,b0,b1,b2]
    exact this
theorem oo (k:Nat) (hk:5000≤k) (h:TA σ j rb m t a) (ho:a.ok) {r d c w:Int} (hv:valid r d c=true) (hw:words r d c=w) (hw2:¬ w>32) (hb:m.births<1000000):
  Rs (Fs (k+8) (D3 rb) r d c w σ) σ j rb (.tuple #[.int .i64 (BH m a r d c (DS m a true w)).1.1,.int .i64 (BH m a r d c (DS m a true w)).1.2]) (BH m a r d c (DS m a true w)).2.1 (BH m a r d c (DS m a true w)).2.2:=by
 have hc0:=ho.c0; have hl0:=ho.l0; have hoc:=ho.oc0; have hol:=ho.ol0
 have hnt:=h.g.nt; have hnb:=h.g.nb
 have hwp:=JG hv
 rw[hw] at hwp
 have bx:∀ {μ:Aa} {q:Nat},μ[q]?=some (AP.cells [Value.int .i64 r,.int .i64 d,.int .i64 c] Al true)→Ai .i64 μ q 0=some r∧Ai .i64 μ q 1=some d∧Ai .i64 μ q 2=some c:=by
  intro μ q hm; simp[Ai,Gs,hm,BF]
 obtain ⟨μ0,hμ0⟩:∃ μ0,σ++[AP.cells [Value.int .i64 r,.int .i64 d,.int .i64 c] Al true]=μ0:=⟨_,rfl⟩
 have h0:TA μ0 j rb m t a:=hμ0 ▸ h.app _
 have K0:Eg j j rb σ μ0:=hμ0 ▸ Eg.app j σ _
 have S0:μ0[σ.length]?=some (AP.cells [Value.int .i64 r,.int .i64 d,.int .i64 c] Al true):=by rw[← hμ0]; simp
 obtain ⟨b0,b1,b2⟩:=bx S0
 have ef:=Z0 (k+4) (by omega) h0.g h0.M.fz (c:=1) (by decide)
 rw[← Wo (by omega),show ((1:Nat):Int)=1 from rfl] at ef
 have ef':Es (k+7) (Ca j) 1 μ0=_:=ef
 have wd:Ac (a.ol-a.oc)=a.ol-a.oc:=Ad (by unfold AY; omega)
 have fin:∀ (x e:Int) (bl:Nat) (m1:HM),0≤x∧x≤20000→m1=(if 0<bl then GG m bl a.s else m)→DS m a true w=((x,true),m1,a.put true (x+w) e)→Rs ((Aw (k+7) (D3 rb) x (bl:Int) r d c μ0).bind fun r18=>Gt r18.1 fun n19 n20=>(bif n20 == (0:Int) then ((Gz r18.2 rb 5 (.int .i64 (Ac (x+w)))).bind fun s22=>(Gz s22 rb 6 (.int .i64 e)).bind fun s24=>some (.normal,[],s24)) else (some (.normal,[],r18.2)):Option Ay).bind fun r25=>if r25.1 = .normal then (some (.tuple #[.int .i64 n19,.int .i64 n20],r25.2.2)) else none) σ j rb (.tuple #[.int .i64 (BH m a r d c (DS m a true w)).1.1,.int .i64 (BH m a r d c (DS m a true w)).1.2]) (BH m a r d c (DS m a true w)).2.1 (BH m a r d c (DS m a true w)).2.2:=by
  intro x e bl m1 hx hm1 hpr
  rw[hpr,Vn (m1:=m1) hv (by rw[hw]; exact hw2) rfl rfl]
  obtain ⟨μ1,j1,t1,e1,h1,K1⟩:=Su (k+1) (by omega) h0 (x:=x) (by omega) bl (r:=r) (d:=d) (c:=c) hb hm1
  dsimp only
  generalize fu m1 a.s x r d c=pl at *
  have e1':Aw (k+7) (D3 rb) x (bl:Int) r d c μ0=_:=e1
  simp only[e1',Option.bind_some,Ew,Ad (show AY (x+w) by unfold AY; omega)]
  by_cases q:pl.1.2=0
  ·rw[if_pos q]
   have s1:=h1.al.Gz 5 (.int .i64 (x+w)) { a with oc:=x+w } rfl (by decide)
   have h2:=h1.RE { a with oc:=x+w }
   have s2:=h2.al.Gz 6 (.int .i64 e) (a.put true (x+w) e) rfl (by decide)
   have h3:=h2.RE (a.put true (x+w) e)
   simp only[show (pl.1.2 == 0)=true from by simpa using q,cond_true,s1,Option.bind_some,s2,if_true]
   exact ⟨_,j1,t1,rfl,h3,((K0.trans K1).trans (Eg.set _ _ _)).trans (Eg.set _ _ _)⟩
  ·rw[if_neg q]
   simp only[show (pl.1.2 == 0)=false from by simpa using q,cond_false,Option.bind_some,if_true]
   exact ⟨μ1,j1,t1,rfl,h1,K0.trans K1⟩
 rw[QJ,MY]
 simp only[An,hμ0,Option.bind_some,Nat.zero_add,Nat.add_zero,Nat.reduceAdd,h0.al.l5,h0.al.l6,wd,h0.al.X9,ef',Ao]
 by_cases q:a.ol-a.oc≥w
 ·have hpr:DS m a true w=((a.oc,true),m,a.put true (a.oc+w) a.ol):=by
   unfold DS; rw[if_pos (show a.li true-a.cu true≥w from q)]; rfl
  have:=fin a.oc a.ol 0 m (by omega) rfl hpr
  simp only[decide_eq_false (show ¬ a.ol-a.oc<w by omega),cond_false,Option.bind_some,if_true,X6,b0,b1,b2]
  exact this
 ·simp only[decide_eq_true (show a.ol-a.oc<w by omega),cond_true]
  cases hf:Qp m with
  | none=>
    have hpr:DS m a true w=((0,false),m,a):=by
     unfold DS; rw[if_neg (show ¬ a.li true-a.cu true≥w from q),hf]
    have hX:BH m a r d c (DS m a true w)=((0,6),m,a):=by
     unfold BH; rw[if_pos hv,hpr,if_neg (by dsimp only; decide)]
    rw[hX]
    simp only[beq_self_eq_true,cond_true,Option.bind_some,show (Bk.ret=Bk.normal)=False from by simp,if_false,if_true,GK]
    exact ⟨μ0,j,t,rfl,h0,K0⟩
  | some b=>
    have hb1:=Ig hf
    have hpr:DS m a true w=((64*(b:Int),true),GG m b a.s,a.put true (64*(b:Int)+w) (64*(b:Int)+64)):=by
     unfold DS; rw[if_neg (show ¬ a.li true-a.cu true≥w from q),hf]
    have:=fin (64*(b:Int)) (64*(b:Int)+64) b (GG m b a.s) (by omega) (by rw[if_pos (by omega)]) hpr
    have w1:Ac ((b:Int)*64)=64*(b:Int):=by rw[Ad (by unfold AY; omega)]; omega
    have w2:Ac ((b:Int)+1)=(b:Int)+1:=Ad (by unfold AY; omega)
    have w3:Ac (((b:Int)+1)*64)=64*(b:Int)+64:=by rw[Ad (by unfold AY; omega)]; omega
    simp only[show (((b:Nat):Int) == 0)=false from by rw[beq_eq_false_iff_ne]; omega,cond_false,w1,w2,w3,Option.bind_some,if_true,X6,b0,b1,b2]
    exact this
theorem UX (k:Nat) (hk:5000≤k) (h:TA σ j rb m t a):∀ (n x f:Nat) (τ:Aa) (o:EF),x+n=m.bls.length→Cd Af 2 (σ++τ) o (ES m (Bo m a.s x)).length (Bj (ES m (Bo m a.s x)))→(∀ y,o.1=some y→σ.length≤y.block)→n<f →
  ∃ τ' o',Dq (k+4) f (D3 rb) o (x:Int) (σ++τ)=some (.exit 0,[.slice o'.1 o'.2.1 o'.2.2],σ++τ')∧Cd Af 2 (σ++τ') o' (ES m (Bo m a.s m.bls.length)).length (Bj (ES m (Bo m a.s m.bls.length)))
 | n,x,0,τ,o,hx,hs,hb,hf=>by omega
 | 0,x,f+1,τ,o,hx,hs,hb,hf=>by
   obtain rfl:x=m.bls.length:=by omega
   have h1:=h.app τ
   have eb:Br (k+4) (Ca j) (σ++τ)=_:=Q0 (k+2) h1.g
   rw[J6,Hu]
   exact ⟨τ,o,by simp only[Option.bind_some,Nat.add_zero,h1.al.X9,eb,Ao,decide_eq_false (Int.lt_irrefl _),cond_false],hs⟩
 | n+1,x,f+1,τ,o,hx,hs,hb,hf=>by
   have hnt:=h.g.nt
   have h1:=h.app τ
   have hxl:x<m.bls.length:=by omega
   have eb:Br (k+4) (Ca j) (σ++τ)=_:=Q0 (k+2) h1.g
   have e1:Bi (k+4) (Ca j) (x:Int) (σ++τ)=_:=Ss (k+2) h1.g (x:Int)
   have e2:BV (k+4) (Ca j) (x:Int) (σ++τ)=_:=Yo (k+2) h1.g (x:Int)
   have es:Ii m (x:Int)=(m.bls.getD x (0,0)).1:=by unfold Ii; rw[if_pos (by omega),Int.toNat_natCast]
   have ep:WD m (x:Int)=(m.bls.getD x (0,0)).2:=by unfold WD; rw[if_pos (by omega),Int.toNat_natCast]
   have w1:Ac ((x:Int)+1)=((x+1:Nat):Int):=Ad (by unfold AY; omega)
   rw[J6,Hu]
   simp only[Option.bind_some,Nat.add_zero,Nat.zero_add,h1.al.X9,eb,Ao,decide_eq_true (show (x:Int)<((m.bls.length:Nat):Int) by omega),cond_true,e1,e2,es,ep,h1.al.l1,w1]
   rw[kg]
   by_cases q:(m.bls.getD x (0,0)).1=1∧(m.bls.getD x (0,0)).2=a.s
   ·obtain ⟨τ1,s1,e3,g1,lo1⟩:=nX k hk h1.g (x:Int)
    have hlen:=PI m (x:Int)
    have hol:(ES m (Bo m a.s x)).length≤64*33:=by
     have hb2:=Ku m a.s x
     have aux:∀ L:List Nat,(L.flatMap fun b:Nat=>GQ m (b:Int)).length≤L.length*33:=by
      intro L
      induction L with
      | nil=>simp
      | cons b L ih=>
        have:=PI m (b:Int)
        rw[List.flatMap_cons,List.length_append,List.length_cons]; omega
     have:=aux (Bo m a.s x)
     unfold ES; omega
    have hnext:ES m (Bo m a.s (x+1))=ES m (Bo m a.s x)++GQ m (x:Int):=by
     rw[Nd,if_pos q]; simp[ES]
    obtain ⟨o1,τ2,e4,g2,lo2⟩:∃ o1 τ2,Bn P Af (o.1,o.2.1,o.2.2) (s1.1,s1.2.1,s1.2.2) (σ++τ++τ1)=some (o1,σ++τ2)∧Cd Af 2 (σ++τ2) o1 (ES m (Bo m a.s (x+1))).length (Bj (ES m (Bo m a.s (x+1)))) ∧ ∀ y,o1.1=some y→σ.length≤y.block:=by
     have f0:=g1.first
     have l2:=g1.len
     rw[hnext]
     by_cases hz:GQ m (x:Int)=[]
     ·rw[hz] at f0 l2
      refine ⟨o,τ++τ1, ?_,by rw[hz,List.append_nil,← List.append_assoc]; exact hs.app _,hb⟩
      rw[show s1.2.1=0 from l2,← List.append_assoc]
      exact Uv ff dW fq rfl rfl (by decide) (σ++τ++τ1) o _ _ s1.1 s1.2.2 (hs.app _) f0
     ·have hp:0<(GQ m (x:Int)).length:=List.length_pos_iff.2 hz
      obtain ⟨o1,μ3,e,g,hh⟩:=SL ff dW fq rfl rfl (by decide) (by decide) (by decide) (σ++τ++τ1) o _ _ s1.1 (GQ m (x:Int)).length s1.2.2 (Bj (GQ m (x:Int))) (by omega) hp (Mm _) (hs.app _) f0
      rw[List.append_assoc] at g
      obtain ⟨⟨τ2,rfl⟩,h2⟩:=g.behind hb
      rw[l2]
      exact ⟨o1,τ2,e,by rw[KF,List.length_append]; exact hh,h2⟩
    obtain ⟨τ3,o3,e5,g3⟩:=UX k hk h n (x+1) f τ2 o1 (by omega) g2 lo2 (by omega)
    refine ⟨τ3,o3, ?_,g3⟩
    simp only[decide_eq_true q,Option.bind_some,cond_true,h1.al.X9,e3,Hm,e4,if_true,GA]
    exact e5
   ·obtain ⟨τ3,o3,e5,g3⟩:=UX k hk h n (x+1) f τ o (by omega) (by rw[Nd,if_neg q,List.append_nil]; exact hs) hb (by omega)
    refine ⟨τ3,o3, ?_,g3⟩
    simp only[decide_eq_false q,Option.bind_some,cond_false,if_true,GA]
    exact e5
theorem og (k:Nat) (hk:5000≤k) (h:TA σ j rb m t a):∃ τ o,Fq (k+5) (D3 rb) σ=some (.slice o.1 o.2.1 o.2.2,σ++τ)∧Cd Af 2 (σ++τ) o (ES m (Bo m a.s m.bls.length)).length (Bj (ES m (Bo m a.s m.bls.length))):=by
 have hnt:=h.g.nt; have hnb:=h.g.nb
 have hb1:Bo m a.s 1=[]:=by
  rw[Nd]
  have hb0:=h.M.b0
  unfold B0 at hb0
  rw[if_neg (by omega)]; rfl
 obtain ⟨τ,o,e,g⟩:=UX k hk h (m.bls.length-1) 1 (k+4) [] (none,0,0) (by omega) (by rw[hb1]; exact Cd.nil _ _ _) (fun y hy=>by cases hy) (by omega)
 rw[List.append_nil,show ((1:Nat):Int)=1 from rfl] at e
 refine ⟨τ,o, ?_,g⟩
 rw[QI,MX]
 simp only[e,Option.bind_some,if_true,GA]
theorem WV (k:Nat) (h:TA σ j rb m t a) {cc w:Nat} (hcc:a.c=(cc:Int)) (hc2:cc≤10000) (hw:1≤w∧w≤1000) {R:List (Nat × Nat)} (hR:R.length≤5000) (hRb:∀ g ∈ R,g.1+g.2≤10000) {s:EF} (hs:Cd Af 2 σ s R.length (Bj R)):∀ (n x f:Nat),x+n=R.length→n<f →
  CP k f (D3 rb) (w:Int) s.1 R.length s.2.2 (x:Int) σ=some (match ((R.drop x).filterMap (Kw cc w)).head? with | some g=>(.ret,[.int .i64 (g.1:Int),.bool true],σ) | none=>(.exit 0,[],σ))
 | n,x,0,hx,hf=>by omega
 | 0,x,f+1,hx,hf=>by
   rw[IJ,GD,List.drop_of_length_le (by omega)]
   simp only[decide_eq_false (show ¬ (x:Int)<((R.length:Nat):Int) by omega),cond_false]
   rfl
 | n+1,x,f+1,hx,hf=>by
   have hxl:x<R.length:=by omega
   obtain ⟨b,e0,l0,l1⟩:=Tz hs hxl
   have eg:R.getD x (0,0)=R[x]:=by rw[List.getD_eq_getElem?_getD,List.getElem?_eq_getElem hxl]; rfl
   rw[eg] at l0 l1
   have hg:=hRb _ (List.getElem_mem hxl)
   have qx:(0≤(x:Int)∧(x:Int)<((R.length:Nat):Int))=True:=eq_true (by omega)
   have w1:Ac ((x:Int)+1)=((x+1:Nat):Int):=Ad (by unfold AY; omega)
   have w2:Ac (((R[x]).1:Int)+((R[x]).2:Int))=(((R[x]).1+(R[x]).2:Nat):Int):=Ad (by unfold AY; omega)
   have w3:(if a.c>((R[x]).1:Int) then a.c else ((R[x]).1:Int))=((max cc (R[x]).1:Nat):Int):=by rw[hcc]; split <;> omega
   have w4:Ac ((((R[x]).1+(R[x]).2:Nat):Int)-((max cc (R[x]).1:Nat):Int))=(((R[x]).1+(R[x]).2:Nat):Int)-((max cc (R[x]).1:Nat):Int):=Ad (by unfold AY; omega)
   have ih:=WV k h hcc hc2 hw hR hRb hs n (x+1) f (by omega) (by omega)
   rw[e0] at ih
   have hdr:R.drop x=R[x]::R.drop (x+1):=List.drop_eq_getElem_cons hxl
   rw[IJ,GD,hdr]
   simp only[decide_eq_true (show (x:Int)<((R.length:Nat):Int) by omega),cond_true,qx,if_true,e0,Option.bind_some,Int.toNat_natCast,Nat.zero_add,Nat.add_zero,l0,l1,h.al.l3,w1,w2,w3,w4,ih]
   by_cases q:w≤(R[x]).1+(R[x]).2-max cc (R[x]).1
   ·have hc:Kw cc w R[x]=some (max cc (R[x]).1,(R[x]).1+(R[x]).2-max cc (R[x]).1):=by unfold Kw; rw[if_pos q]
    rw[List.filterMap_cons_some hc]
    simp only[decide_eq_true (show (((R[x]).1+(R[x]).2:Nat):Int)-((max cc (R[x]).1:Nat):Int)≥(w:Int) by omega),cond_true,List.head?_cons]
   ·have hc:Kw cc w R[x]=none:=by unfold Kw; rw[if_neg q]
    rw[List.filterMap_cons_none hc]
    simp only[decide_eq_false (show ¬ (((R[x]).1+(R[x]).2:Nat):Int)-((max cc (R[x]).1:Nat):Int)≥(w:Int) by omega),cond_false]
def IW (p1:Bool) (w:Nat) (acc:Option (Nat × Nat)) (g:Nat × Nat):Option (Nat × Nat):=
 if g.2<w then acc else match acc with
  | none=>some g
  | some b=>if p1=true∧g.2<b.2 then some g else acc
theorem KM (k:Nat) (h:TA σ j rb m t a) {w:Nat} {R:List (Nat × Nat)} (hR:R.length≤5000) {s:EF} (hs:Cd Af 2 σ s R.length (Bj R)):∀ (n x f:Nat) (bi:Int) (acc:Option (Nat × Nat)),x+n=R.length→n<f→((bi = -1∧acc=none) ∨ ∃ b:Nat,bi=(b:Int) ∧ ∃ hb:b<R.length,acc=some R[b]) →
  ∃ bi':Int,CQ k f (D3 rb) (w:Int) s.1 R.length s.2.2 bi (x:Int) σ=some (.exit 2,[.int .i64 bi'],σ)∧((bi' = -1∧(R.drop x).foldl (IW (decide (a.p=1)) w) acc=none) ∨ ∃ b:Nat,bi'=(b:Int) ∧ ∃ hb:b<R.length,(R.drop x).foldl (IW (decide (a.p=1)) w) acc=some R[b])
 | n,x,0,bi,acc,hx,hf,hi=>by omega
 | 0,x,f+1,bi,acc,hx,hf,hi=>by
   rw[IK,GF,List.drop_of_length_le (by omega)]
   exact ⟨bi,by simp only[decide_eq_false (show ¬ (x:Int)<((R.length:Nat):Int) by omega),cond_false],hi⟩
 | n+1,x,f+1,bi,acc,hx,hf,hi=>by
   have hxl:x<R.length:=by omega
   obtain ⟨b,e0,l0,l1⟩:=Tz hs hxl
   have eg:∀ y (hy:y<R.length),R.getD y (0,0)=R[y]:=fun y hy=>by rw[List.getD_eq_getElem?_getD,List.getElem?_eq_getElem hy]; rfl
   rw[eg x hxl] at l0 l1
   have qx:(0≤(x:Int)∧(x:Int)<((R.length:Nat):Int))=True:=eq_true (by omega)
   have w1:Ac ((x:Int)+1)=((x+1:Nat):Int):=Ad (by unfold AY; omega)
   have hdr:R.drop x=R[x]::R.drop (x+1):=List.drop_eq_getElem_cons hxl
   rw[IK,GF,hdr,List.foldl_cons]
   simp only[decide_eq_true (show (x:Int)<((R.length:Nat):Int) by omega),cond_true,qx,if_true,e0,Option.bind_some,Int.toNat_natCast,Nat.zero_add,Nat.add_zero,l1,w1,h.al.l2]
   by_cases q:(R[x]).2<w
   ·obtain ⟨bi',e1,r1⟩:=KM k h (w:=w) hR hs n (x+1) f bi acc (by omega) (by omega) hi
    rw[e0] at e1
    refine ⟨bi', ?_, ?_⟩
    ·simp only[decide_eq_true (show (((R[x]).2:Nat):Int)<(w:Int) by omega),cond_true,e1]
    ·unfold IW; rw[if_pos q]; exact r1
   ·simp only[decide_eq_false (show ¬ (((R[x]).2:Nat):Int)<(w:Int) by omega),cond_false]
    rcases hi with ⟨rfl,rfl⟩ | ⟨b',rfl,hb',rfl⟩
    ·obtain ⟨bi',e1,r1⟩:=KM k h (w:=w) hR hs n (x+1) f (x:Int) (some R[x]) (by omega) (by omega) (.inr ⟨x,rfl,hxl,rfl⟩)
     rw[e0] at e1
     refine ⟨bi', ?_, ?_⟩
     ·simp only[decide_eq_true (show (-1:Int)<0 by decide),cond_true,Option.bind_some,if_true,DZ,e1]
     ·rw[show IW (decide (a.p=1)) w none R[x]=some R[x] from by unfold IW; rw[if_neg q]]; exact r1
    ·obtain ⟨_,e0',_,l1'⟩:=Tz hs hb'
     rw[e0] at e0'; cases e0'
     rw[eg b' hb'] at l1'
     have qb:(0≤(b':Int)∧(b':Int)<((R.length:Nat):Int))=True:=eq_true (by omega)
     simp only[decide_eq_false (show ¬ (b':Int)<0 by omega),cond_false,qb,if_true,l1',Option.bind_some,Int.toNat_natCast,Nat.zero_add]
     by_cases q2:a.p=1
     ·simp only[show (a.p == 1)=true from by simpa using q2,cond_true,Option.bind_some]
      by_cases q3:(R[x]).2<(R[b']).2
      ·obtain ⟨bi',e1,r1⟩:=KM k h (w:=w) hR hs n (x+1) f (x:Int) (some R[x]) (by omega) (by omega) (.inr ⟨x,rfl,hxl,rfl⟩)
       rw[e0] at e1
       refine ⟨bi', ?_, ?_⟩
       ·simp only[decide_eq_true (show (((R[x]).2:Nat):Int)<(((R[b']).2:Nat):Int) by omega),cond_true,Option.bind_some,if_true,DZ,e1]
       ·rw[show IW (decide (a.p=1)) w (some R[b']) R[x]=some R[x] from by unfold IW; rw[if_neg q,decide_eq_true q2]; exact if_pos ⟨rfl,q3⟩]; exact r1
      ·obtain ⟨bi',e1,r1⟩:=KM k h (w:=w) hR hs n (x+1) f (b':Int) (some R[b']) (by omega) (by omega) (.inr ⟨b',rfl,hb',rfl⟩)
       rw[e0] at e1
       refine ⟨bi', ?_, ?_⟩
       ·simp only[decide_eq_false (show ¬ (((R[x]).2:Nat):Int)<(((R[b']).2:Nat):Int) by omega),cond_false,Option.bind_some,if_true,DZ,e1]
       ·rw[show IW (decide (a.p=1)) w (some R[b']) R[x]=some R[b'] from by unfold IW; rw[if_neg q]; exact if_neg (fun hh=>q3 hh.2)]; exact r1
     ·simp only[show (a.p == 1)=false from by simpa using q2,cond_false,Option.bind_some]
      obtain ⟨bi',e1,r1⟩:=KM k h (w:=w) hR hs n (x+1) f (b':Int) (some R[b']) (by omega) (by omega) (.inr ⟨b',rfl,hb',rfl⟩)
      rw[e0] at e1
      refine ⟨bi', ?_, ?_⟩
      ·simp only[cond_false,Option.bind_some,if_true,DZ,e1]
      ·rw[show IW (decide (a.p=1)) w (some R[b']) R[x]=some R[b'] from by unfold IW; rw[if_neg q,decide_eq_false q2]; exact if_neg (fun hh=>by cases hh.1)]; exact r1
theorem oS (w:Nat) (hw:1≤w) (g:Nat × Nat):Kw 0 w g=if g.2<w then none else some g:=by
 unfold Kw
 obtain ⟨x,y⟩:=g
 by_cases q:y<w
 ·rw[if_pos q,if_neg (by dsimp only; omega)]
 ·rw[if_neg q,if_pos (by dsimp only; omega)]
  dsimp only
  congr 2 <;> omega
theorem Wn (w:Nat) (hw:1≤w):∀ (l:List (Nat × Nat)) (acc:Option (Nat × Nat)),l.foldl (IW false w) acc=acc.or (l.filterMap (Kw 0 w)).head?
 | [],acc=>by cases acc <;> rfl
 | g::l,acc=>by
   rw[List.foldl_cons,Wn w hw l]
   by_cases q:g.2<w
   ·rw[List.filterMap_cons_none (by rw[oS w hw,if_pos q]),show IW false w acc g=acc from by unfold IW; rw[if_pos q]]
   ·rw[List.filterMap_cons_some (by rw[oS w hw,if_neg q])]
    cases acc with
    | none=>rw[show IW false w none g=some g from by unfold IW; rw[if_neg q]]; rfl
    | some b=>rw[show IW false w (some b) g=some b from by unfold IW; rw[if_neg q]; exact if_neg (fun hh=>by cases hh.1)]; rfl
theorem cK (w:Nat) (hw:1≤w):∀ (l:List (Nat × Nat)) (acc:Option (Nat × Nat)),l.foldl (IW true w) acc=(match acc with | none=>Ly (l.filterMap (Kw 0 w)) | some b=>match Ly (l.filterMap (Kw 0 w)) with | none=>some b | some h=>if h.2<b.2 then some h else some b)
 | [],acc=>by cases acc <;> rfl
 | g::l,acc=>by
   rw[List.foldl_cons,cK w hw l]
   by_cases q:g.2<w
   ·rw[List.filterMap_cons_none (by rw[oS w hw,if_pos q]),show IW true w acc g=acc from by unfold IW; rw[if_pos q]]
   ·rw[List.filterMap_cons_some (by rw[oS w hw,if_neg q])]
    cases acc with
    | none=>
      rw[show IW true w none g=some g from by unfold IW; rw[if_neg q]]
      rfl
    | some b=>
      rw[show IW true w (some b) g=if g.2<b.2 then some g else some b from by unfold IW; rw[if_neg q]; simp]
      simp only[Ly]
      cases Ly (l.filterMap (Kw 0 w)) with
      | none=>by_cases q2:g.2<b.2 <;> simp[q2]
      | some h=>
        by_cases q2:g.2<b.2
        ·rw[if_pos q2]
         dsimp only
         by_cases q3:h.2<g.2
         ·rw[if_pos q3]; dsimp only; rw[if_pos (by omega)]
         ·rw[if_neg q3]; dsimp only; rw[if_pos q2]
        ·rw[if_neg q2]
         dsimp only
         by_cases q3:h.2<g.2
         ·rw[if_pos q3]
         ·rw[if_neg q3]; dsimp only; rw[if_neg q2,if_neg (by omega)]
def Vy (m:HM) (a:AS) (w:Nat):Option (Nat × Nat):=
 if a.p=2 then (C5 m a.s a.c.toNat w++C5 m a.s 0 w).head?
 else if a.p=1 then Ly (C5 m a.s 0 w) else (C5 m a.s 0 w).head?
theorem kV (k:Nat) (hk:8000≤k) (h:TA σ j rb m t a) (ho:a.ok) {w:Nat} (hw:1≤w∧w≤1000):∃ τ,DG (k+6) (D3 rb) (w:Int) σ=some (.tuple #[.int .i64 (match Vy m a w with | some g=>(g.1:Int) | none=>0),.bool (Vy m a w).isSome],σ++τ):=by
 have hc0:=ho.c0
 have hnt:=h.g.nt
 obtain ⟨cc,hcc⟩:∃ cc:Nat,a.c=(cc:Int):=⟨a.c.toNat,by omega⟩
 obtain ⟨τ,s,e1,h1⟩:=og k (by omega) h
 have hR2:=h.app τ
 have hRl:(ES m (Bo m a.s m.bls.length)).length≤64*33:=by
  have hb2:=Ku m a.s m.bls.length
  have aux:∀ L:List Nat,(L.flatMap fun b:Nat=>GQ m (b:Int)).length≤L.length*33:=by
   intro L
   induction L with
   | nil=>simp
   | cons b L ih=>
     have:=PI m (b:Int)
     rw[List.flatMap_cons,List.length_append,List.length_cons]; omega
  have:=aux (Bo m a.s m.bls.length)
  unfold ES; omega
 have hRb:∀ g ∈ ES m (Bo m a.s m.bls.length),g.1+g.2≤10000:=fun g hg=>by
  unfold ES at hg
  obtain ⟨b,_,hb⟩:=List.mem_flatMap.1 hg
  exact Xb hnt _ g hb
 have hgf:∀ f,C5 m a.s f w=(ES m (Bo m a.s m.bls.length)).filterMap (Kw f w):=fun f=>rfl
 unfold Vy
 simp only[hgf]
 generalize ES m (Bo m a.s m.bls.length)=R at *
 have e2:=WV (k+5) hR2 hcc (by omega) hw (by omega) hRb h1 R.length 0 (k+5) (by omega) (by omega)
 obtain ⟨bi,e3,r3⟩:=KM (k+5) hR2 (w:=w) (by omega) h1 R.length 0 (k+5) (-1) none (by omega) (by omega) (.inl ⟨rfl,rfl⟩)
 rw[List.drop_zero] at e2 r3
 rw[show ((0:Nat):Int)=0 from rfl] at e2 e3
 refine ⟨τ, ?_⟩
 rw[PC,Lx]
 simp only[e1,Option.bind_some,Hm,h1.len,Nat.zero_add,hR2.al.l2,e2,e3,show a.c.toNat=cc from by omega]
 have fin:∀ (G:Option (Nat × Nat)),R.foldl (IW (decide (a.p=1)) w) none=G→(if Bk.exit 2=Bk.exit 2 then (T7 [Value.int .i64 bi] fun n30=>bif decide (n30<(0:Int)) then (some (Value.tuple #[.int .i64 (0:Int),.bool false],σ++τ)) else (if 0≤n30∧n30<(R.length:Nat) then s.1.bind fun a31=>(Ai .i64 (σ++τ) a31.block (a31.off+n30.toNat*2+0)).bind fun n32=>some (.tuple #[.int .i64 n32,.bool true],σ++τ) else none)) else none)=some (.tuple #[.int .i64 (match G with | some g=>(g.1:Int) | none=>0),.bool G.isSome],σ++τ):=by
  intro G hG
  rw[if_pos rfl,DZ]
  rcases r3 with ⟨rfl,r3⟩ | ⟨b,rfl,hb,r3⟩
  ·rw[hG] at r3; subst r3
   rw[decide_eq_true (show (-1:Int)<0 by decide)]; rfl
  ·rw[hG] at r3; subst r3
   obtain ⟨q,e0,l0,_⟩:=Tz h1 hb
   have eg:R.getD b (0,0)=R[b]:=by rw[List.getD_eq_getElem?_getD,List.getElem?_eq_getElem hb]; rfl
   rw[eg] at l0
   rw[decide_eq_false (show ¬ (b:Int)<0 by omega),cond_false,if_pos (by omega),e0]
   simp only[Option.bind_some,Int.toNat_natCast,Nat.zero_add,Nat.add_zero,l0,Option.isSome_some]
 have p0:=ho.p0
 by_cases q2:a.p=2
 ·have hf:R.foldl (IW (decide (a.p=1)) w) none=(R.filterMap (Kw 0 w)).head?:=by
   rw[decide_eq_false (by omega),Wn w hw.1]; rfl
  rw[if_pos q2]
  simp only[show (a.p == 2)=true from by simpa using q2,cond_true]
  cases hc:(R.filterMap (Kw cc w)).head? with
  | some g=>
    have:(R.filterMap (Kw cc w)++R.filterMap (Kw 0 w)).head?=some g:=by rw[List.head?_append,hc]; rfl
    rw[this]
    simp only[show (Bk.ret=Bk.exit 0)=False from by simp,if_false,if_true,X7,Option.bind_some,show (Bk.ret=Bk.normal)=False from by simp,Option.isSome_some]
  | none=>
    have:(R.filterMap (Kw cc w)++R.filterMap (Kw 0 w)).head?=(R.filterMap (Kw 0 w)).head?:=by rw[List.head?_append,hc]; rfl
    rw[this]
    simp only[if_true,Option.bind_some,e3]
    have:=fin _ hf
    simp only[if_true] at this
    exact this
 ·rw[if_neg q2]
  simp only[show (a.p == 2)=false from by simpa using q2,cond_false,Option.bind_some,if_true,e3]
  by_cases q1:a.p=1
  ·rw[if_pos q1]
   have:=fin (Ly (R.filterMap (Kw 0 w))) (by rw[decide_eq_true q1,cK w hw.1])
   simp only[if_true] at this
   exact this
  ·rw[if_neg q1]
   have:=fin (R.filterMap (Kw 0 w)).head? (by rw[decide_eq_false q1,Wn w hw.1]; rfl)
   simp only[if_true] at this
   exact this
end Go.Proofs.YtlaplcglpnlieaaGreat
end
