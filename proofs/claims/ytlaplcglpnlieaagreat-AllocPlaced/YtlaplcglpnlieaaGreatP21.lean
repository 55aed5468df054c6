/- The policy lines; Alloc of any policy.; The document's allocator: Free, place, bump, over.; The document's allocator: bump, over; gaps, choose. -/
import Derived.Test.YtlaplcglpnlieaaGreatP20
import Derived.Test.YtlaplcglpnlieaaGreatP18
set_option linter.unusedVariables false
set_option linter.unusedSimpArgs false
set_option linter.unusedSectionVars false
section
namespace Go.Proofs.YtlaplcglpnlieaaGreat
open Go Go.AX
noncomputable local instance wg:AK:=As
local instance uU:Kn:=⟨true⟩
variable {σ:Aa} {i:C9} {m:HM} {ab:Nat} {a:AS}
theorem Xo {ls:List Bool}:∀ {f x:Nat} {g:Nat × Nat},g ∈ WI ls f x→x≤g.1∧g.1<g.2∧g.2≤ls.length
 | 0,x,g,h=>by simp[WI] at h
 | f+1,x,g,h=>by
   unfold WI at h
   split at h
   ·rename_i hx
    rcases List.mem_append.1 h with h | h
    ·split at h
     ·rename_i q
      simp at h; subst h
      exact ⟨Nat.le_refl _,q,Zg ls 8 x (by omega)⟩
     ·simp at h
    ·have:=Xo h
     exact ⟨by omega,this.2⟩
   ·simp at h
theorem bW {lim:Int}:∀ {L:List Nat} {b x n:Nat},NL m lim L=some (b,x,n)→b ∈ L∧(x,n) ∈ WI (Ew m (b:Int)) 9 0∧64*(b:Int)+8*(x:Int)≥lim
 | [],b,x,n,h=>by cases h
 | c::L,b,x,n,h=>by
   unfold NL at h
   cases hb:SK (Ew m (c:Int)) c lim 9 0 with
   | none=>
     rw[hb] at h
     have:=bW h
     exact ⟨List.mem_cons_of_mem _ this.1,this.2⟩
   | some g=>
     rw[hb] at h
     cases h
     unfold SK at hb
     have h1:=List.mem_of_find?_eq_some hb
     have h2:=List.find?_some hb
     exact ⟨List.mem_cons_self,h1,by simpa using h2⟩
theorem Z6 (hl:m.bls.length≤64):0≤(Mj m a).1∧(Mj m a).1≤9000∧0≤(Mj m a).2.1∧(Mj m a).2.1≤9000:=by
 unfold Mj
 split
 ·rename_i g hg
  obtain ⟨b,x,n⟩:=g
  obtain ⟨h1,h2,_⟩:=bW hg
  have h3:=(RC.1 h1).1
  have h4:=Xo h2
  have h5:=QQ m (b:Int)
  dsimp only at *
  omega
 ·unfold X8
  split
  ·rename_i b hb
   have:=Hp hb
   dsimp only; omega
  ·dsimp only; omega
def GJ (m:HM) (a:AS) (w:Int):PR:=
 if a.l-a.c≥w then ((a.c,true),m,a.put false (a.c+w) a.l)
 else if w>8 then Dg m a true w
 else if (Mj m a).2.2=true then (((Mj m a).1,true),L5 m a,a.put false ((Mj m a).1+w) (Mj m a).2.1)
 else ((0,false),L5 m a,a)
theorem ch (k:Nat) (hk:5000≤k) (h:Ah σ i m) (hA:Ch σ ab i a) (hab:ab ∉ i.l) (ho:a.ok) (hI:Inv m) (hI2:Inv2 m) (h0:B0 m) {w:Int} (hw:0≤w∧w≤1000):
  dk (Db (k+12) (DC ab) w σ) σ i ab (GJ m a w):=by
 have hnt:=h.nt
 have h1:Ah (σ++[.cells [] F8 true]) i m:=h.app _
 have A1:Ch (σ++[.cells [] F8 true]) ab i a:=hA.app _
 have K1:Co i ab σ (σ++[.cells [] F8 true]):=Co.app _ _
 have e1:DM (k+11) (some ⟨ab,3,none⟩) w (σ++[.cells [] F8 true])=some (.bool (decide (a.l-a.c≥w)),σ++[.cells [] F8 true]):=oV (k+10) A1 ho false w
 have tk:∀ {μ:Aa} {a':AS},Ch μ ab i a'→a'.ok→Dm (k+11) (some ⟨ab,3,none⟩) w μ=some (.int .i64 a'.c,μ.set ab (.cells ((a'.put false (a'.c+w) a'.l).row i.hb) AV true)):=fun hA ho=>gU (k+10) hA ho false hw
 rw[NA,LA]
 simp only[Ao,Option.bind_some,Nat.zero_add,e1,Au]
 unfold GJ
 by_cases q:a.l-a.c≥w
 ·rw[if_pos q]
  simp only[decide_eq_true q,cond_true,Option.bind_some,if_true,tk A1 ho,Am]
  exact ⟨_,rfl,h1.Sj hab _,A1.put _,K1.trans (Co.set _ _)⟩
 rw[if_neg q]
 simp only[decide_eq_false q,cond_false]
 by_cases q2:w>8
 ·rw[if_pos q2]
  obtain ⟨σ2,e2,g2,a2,k2⟩:=dS (k+1) (by omega) h1 A1 hab ho true hw
  have e2':B5 (k+11) (DC ab) (some ⟨ab,5,none⟩) w (σ++[.cells [] F8 true])=_:=e2
  simp only[decide_eq_true q2,cond_true,e2',Option.bind_some,TJ,show (Bm.ret=Bm.normal)=False from by simp,if_false,if_true,Yq]
  exact ⟨σ2,rfl,g2,a2,K1.trans k2⟩
 rw[if_neg q2]
 obtain ⟨σ2,e2,g2,k2⟩:=qL (k+1) (by omega) h1 A1 hab ho hI hI2 h0
 have e2':CH (k+11) (DC ab) (σ++[.cells [] F8 true])=_:=e2
 have A2:=A1.UC k2 hab
 have K2:=K1.trans (Co.of k2)
 have hr:=Z6 (m:=m) (a:=a) hnt
 simp only[decide_eq_false q2,cond_false,e2',Option.bind_some,Yu,List.length_cons,List.length_nil,List.head?_cons,List.tail_cons,av,Au,rf,Nat.zero_add,Nat.reduceAdd,if_true]
 generalize Mj m a=v at *
 cases hv:v.2.2 with
 | false=>
   simp only[Bool.not_false,cond_true,Option.bind_some,show (Bm.ret=Bm.normal)=False from by simp,if_false,if_true,Yq,Bool.false_eq_true]
   exact ⟨_,rfl,g2.app _,A2.app _,K2.trans (Co.app _ _)⟩
 | true=>
   obtain ⟨l0,l1⟩:=mr σ2 Ey v.1 v.2.1
   have A3:=A2.app [.cells [.int .i64 v.1,.int .i64 v.2.1] Ey true]
   have st3:=A3.tJ false v.1 v.2.1
   rw[show og false=3 from rfl] at st3
   have A4:=A3.put (a.put false v.1 v.2.1)
   have ho4:(a.put false v.1 v.2.1).ok:=ho.put false (by omega) (by omega)
   simp only[Bool.not_true,cond_false,l0,l1,Option.bind_some,st3,if_true,tk A4 ho4,Am]
   exact ⟨_,rfl,((g2.app _).Sj hab _).Sj hab _,A4.put _,((K2.trans (Co.app _ _)).trans (Co.set _ _)).trans (Co.set _ _)⟩
def UI (m:HM) (a:AS) (w:Int):PR:=
 if w>32 then KX m a w
 else if a.p=0 then BQ m a (Cr m a.s 0 w.toNat)
 else if a.p=1 then mb m a w.toNat
 else if a.p=2 then SP m a w.toNat
 else if a.p=3 then Dg m a false w
 else GJ m a w
def Uh (m:HM) (a:AS) (r d c:Int):(Int × Int) × HM × AS:=Bu m a r d c (UI m a (words r d c))
theorem Zm (h:Inv m) (h2:Inv2 m) (hl:m.bls.length≤64) (ho:a.ok) {l:List (Nat × Nat)} (hg:∀ g ∈ l,g.1≤10000):hY m a (BQ m a l):=by
 have hadr:=cZ (a:=a) hl hg
 unfold BQ at *
 split
 ·exact ⟨h,h2,rfl,rfl,hadr,rfl,rfl,ho,fun hh=>by cases hh⟩
 ·split
  ·rename_i b hb
   have:=Hp hb
   obtain ⟨k1,k2,k3,k4⟩:=bg (b:=b) h h2 a.s
   exact ⟨k1,k2,k3,k4,by dsimp only; omega,rfl,rfl,ho,fun hh=>by cases hh⟩
  ·exact gL h h2 ho
theorem qA (h:Inv m) (h2:Inv2 m) (s:Int):Inv (S7 m s)∧Inv2 (S7 m s)∧(S7 m s).births=m.births∧(S7 m s).bls.length=m.bls.length:=by
 unfold S7
 split
 ·exact bg h h2 s
 ·exact ⟨h,h2,rfl,rfl⟩
theorem oX (h:Inv m) (h2:Inv2 m):Inv (L5 m a)∧Inv2 (L5 m a)∧(L5 m a).births=m.births∧(L5 m a).bls.length=m.bls.length:=by
 unfold L5
 split
 ·exact ⟨h,h2,rfl,rfl⟩
 ·exact qA h h2 _
theorem oY (h:(Mj m a).2.2=false):L5 m a=m:=by
 unfold Mj L5 at *
 cases q:NL m a.l (Br m a.s m.bls.length) with
 | some g=>rfl
 | none=>
   rw[q] at h
   unfold X8 S7 at *
   cases q2:Kt m with
   | some b=>rw[q2] at h; cases h
   | none=>rfl
theorem YB:∀ {l:List (Nat × Nat)} {e:Nat × Nat},LS l=some e→e ∈ l
 | [],e,h=>by cases h
 | g::l,e,h=>by
   unfold LS at h
   cases hb:LS l with
   | none=>rw[hb] at h; cases h; exact List.mem_cons_self
   | some x=>
     rw[hb] at h
     dsimp only at h
     split at h
     ·cases h; exact List.mem_cons_of_mem _ (YB hb)
     ·cases h; exact List.mem_cons_self
theorem ei (hl:m.bls.length≤64) {s:Int} {f w:Nat} (hw:1≤w):∀ g ∈ Cr m s f w,g.1+w≤4096:=by
 intro g hg
 unfold Cr at hg
 obtain ⟨g0,h0,hc⟩:=List.mem_filterMap.1 hg
 unfold EV at h0
 obtain ⟨b,_,hb⟩:=List.mem_flatMap.1 h0
 have:=et hl _ g0 hb
 unfold KJ at hc
 split at hc
 ·cases hc; dsimp only; omega
 ·cases hc
theorem lG (hl:m.bls.length≤64) {l:List (Nat × Nat)} {w:Nat} (hw:w≤1000) (hg:∀ g ∈ l,g.1+w≤4096):0≤(BQ m a l).1.1∧(BQ m a l).1.1+w≤6000:=by
 unfold BQ
 split
 ·have:=hg _ (List.mem_cons_self); dsimp only; omega
 ·split
  ·rename_i b hb
   have:=Hp hb
   dsimp only; omega
  ·dsimp only; omega
theorem gC (h:Inv m) (h2:Inv2 m) (hl:m.bls.length≤64) (ho:a.ok) {w:Int} (hw:1≤w∧w≤1000):hY m a (UI m a w):=by
 have hc:=ho.c0
 have hll:=ho.l0
 have hg0:=ei (m:=m) hl (s:=a.s) (f:=0) (w:=w.toNat) (by omega)
 have hgc:=ei (m:=m) hl (s:=a.s) (f:=a.c.toNat) (w:=w.toNat) (by omega)
 have nx:hY m a (SP m a w.toNat):=by
  have hga:∀ g ∈ Cr m a.s a.c.toNat w.toNat++Cr m a.s 0 w.toNat,g.1+w.toNat≤4096:=fun g hg=>by
   rcases List.mem_append.1 hg with hg | hg
   ·exact hgc g hg
   ·exact hg0 g hg
  have hs:=Zm (a:=a) h h2 hl ho (l:=Cr m a.s a.c.toNat w.toNat++Cr m a.s 0 w.toNat) (fun g hg=>by have:=hga g hg; omega)
  have hadr:=lG (a:=a) hl (by omega) hga
  unfold SP
  split
  ·exact ⟨hs.inv,hs.inv2,hs.brt,hs.len,hs.adr,jg _ _ _ _,jf _ _ _ _,ho.put false (by omega) hll,fun hh=>by rename_i q; exact absurd (q.symm.trans hh) (by decide)⟩
  ·exact hs
 unfold UI
 split
 ·exact nu h h2 hl ho w
 split
 ·exact Zm h h2 hl ho fun g hg=>by have:=hg0 g hg; omega
 split
 ·exact Zm h h2 hl ho fun g hg=>by
   cases hb:LS (Cr m a.s 0 w.toNat) with
   | none=>rw[hb] at hg; simp at hg
   | some e=>
     rw[hb] at hg; simp at hg; subst hg
     have:=hg0 g (YB hb); omega
 split
 ·exact nx
 split
 ·exact iu h h2 hl ho false (by omega)
 ·unfold GJ
  split
  ·exact ⟨h,h2,rfl,rfl,by dsimp only; omega,jg _ _ _ _,jf _ _ _ _,ho.put false (by omega) (by omega),fun hh=>by cases hh⟩
  ·split
   ·exact iu h h2 hl ho true (by omega)
   ·obtain ⟨k1,k2,k3,k4⟩:=oX (a:=a) h h2
    have hr:=Z6 (m:=m) (a:=a) hl
    split
    ·exact ⟨k1,k2,k3,k4,by dsimp only; omega,jg _ _ _ _,jf _ _ _ _,ho.put false (by omega) (by omega),fun hh=>by cases hh⟩
    ·rename_i q
     exact ⟨k1,k2,k3,k4,by dsimp only; omega,rfl,rfl,ho,fun _=>by rw[oY (by simpa using q)]⟩
theorem iw (k:Nat) (p:Option Addr) (n:Int) (σ:Aa):Cl k (.func (.method "dustcart/alloc.place") #[Xk 0] #[]) [.pointer p,.int .i64 n] σ=Da k p n σ:=by
 simp only[Cl,Da,Ab]; kernel_rfl
theorem kn (k:Nat) (p:Option Addr) (n:Int) (σ:Aa):Cl k (.func (.method "dustcart/alloc.place") #[Xk 1] #[]) [.pointer p,.int .i64 n] σ=D2 k p n σ:=by
 simp only[Cl,D2,Ab]; kernel_rfl
theorem kq (k:Nat) (p:Option Addr) (n:Int) (σ:Aa):Cl k (.func (.method "dustcart/alloc.place") #[Xk 2] #[]) [.pointer p,.int .i64 n] σ=D4 k p n σ:=by
 simp only[Cl,D4,Ab]; kernel_rfl
theorem ix (k:Nat) (p:Option Addr) (n:Int) (σ:Aa):Cl k (.func (.method "dustcart/alloc.place") #[Xk 4] #[]) [.pointer p,.int .i64 n] σ=Db k p n σ:=by
 simp only[Cl,Db,Ab]; kernel_rfl
theorem dI (k:Nat) (hk:50000≤k) (h:Ah σ i m) (hA:Ch σ ab i a) (hab:ab ∉ i.l) (ho:a.ok) (hI:Inv m) (hI2:Inv2 m) (h0:B0 m) (hb:m.births<1000000) (r d c:Int):
  rA (AO (k+13) (DC ab) r d c σ) σ i ab (Uh m a r d c):=by
 have pr:valid r d c=true→hY m a (UI m a (words r d c)):=fun hv=>by
  have:=HH hv
  exact gC hI hI2 h.nt ho (by omega)
 refine oo k (by omega) h hA hab ho _ (fun hv σ0 g0 A0=>?_) (fun hv=>(pr hv).inv) (fun hv=>by rw[(pr hv).brt]; exact hb) (fun hv=>(pr hv).adr) (fun hv=>(pr hv).s)
 have hw:=HH hv
 obtain ⟨w,hww⟩:∃ w:Nat,words r d c=(w:Int):=⟨(words r d c).toNat,by omega⟩
 have p0:=ho.p0
 rw[hww]
 unfold UI tI
 rw[Int.toNat_natCast]
 by_cases q:(w:Int)>32
 ·rw[if_pos q,if_pos q,Nm]
  exact ph (k+3) (by omega) g0 A0 hab (by omega)
 rw[if_neg q,if_neg q]
 by_cases q0:a.p=0
 ·rw[if_pos q0,q0,show (0:Int).toNat=0 from rfl,iw]
  exact bM k (by omega) g0 A0 hab ho hI h0 (by omega)
 rw[if_neg q0]
 by_cases q1:a.p=1
 ·rw[if_pos q1,q1,show (1:Int).toNat=1 from rfl,kn]
  exact du k hk g0 A0 hab ho hI hI2 h0 (by omega)
 rw[if_neg q1]
 by_cases q2:a.p=2
 ·rw[if_pos q2,q2,show (2:Int).toNat=2 from rfl,kq]
  exact dC k (by omega) g0 A0 hab ho hI h0 (by omega)
 rw[if_neg q2]
 by_cases q3:a.p=3
 ·rw[if_pos q3,q3,show (3:Int).toNat=3 from rfl,ko]
  exact dv (k+1) (by omega) g0 A0 hab ho (by omega)
 rw[if_neg q3,show a.p.toNat=4 from by omega,ix]
 exact ch k (by omega) g0 A0 hab ho hI hI2 h0 (by omega)
end Go.Proofs.YtlaplcglpnlieaaGreat
end
section
namespace Go.Proofs.YtlaplcglpnlieaaGreat
open Go Go.AX
noncomputable local instance wh:AK:=As
local instance uV:Kn:=⟨true⟩
variable {σ:Aa} {m:HM} {t:RM} {j:RI} {rb:Nat} {a:AS}
structure Sr (m:HM):Prop where
 inv:Inv m
 inv2:Inv2 m
 sh:Sh m
 fz:FZ m
 b0:B0 m
 nb:2≤m.bls.length
 nt:m.bls.length≤64
theorem Sr.Z3 (h:Sr m) (b c x y x' y':Int) (hx:x≠0) (hx':x'≠0∨c=1):Sr (Bs m b c x y x' y').2:=by
 have k:=MW h.inv h.inv2 b c x y x' y'
 exact ⟨k.inv,k.inv2,mY h.sh _ _ _ _ _ _,YD h.fz _ _ _ _ _ _ hx hx',(YC m b c x y x' y').trans h.b0,by rw[k.len]; exact h.nb,by rw[k.len]; exact h.nt⟩
theorem c8 (m:HM) (x r d c:Int):(Bv m x r d c).2.2.bls=m.bls:=by
 unfold Bv; split
 ·split <;> rfl
 ·rfl
theorem nJ (h:Sh m) (x r d c:Int):Sh (Bv m x r d c).2.2:=by
 unfold Bv; split
 ·split
  ·obtain ⟨p,q,u⟩:=h
   exact ⟨by simp only[CY,List.length_set]; exact p,by simp only[CY]; rw[Nk]; exact q,u⟩
  ·exact h
 ·exact h
theorem Sr.place (h:Sr m) (x r d c:Int):Sr (Bv m x r d c).2.2:=by
 have k:=RF h.inv h.inv2 h.sh x r d c
 have e:=c8 m x r d c
 exact ⟨k.inv,k.inv2,nJ h.sh _ _ _ _,RX h.fz e,by unfold B0; rw[e]; exact h.b0,by rw[e]; exact h.nb,by rw[e]; exact h.nt⟩
theorem SA (h:Sr m) (b:Nat) (s:Int):Sr (Dh m b s):=h.Z3 _ _ _ _ _ _ (by decide) (.inr rfl)
theorem oE (h:Sr m) (s:Int):Sr (S7 m s):=by
 unfold S7; split
 ·exact SA h _ _
 ·exact h
theorem Uc (h:Sr m) (l:List (Nat × Nat)):Sr (BQ m a l).2.1:=by
 unfold BQ; split
 ·exact h
 ·split
  ·exact SA h _ _
  ·exact h
theorem dR (h:Sr m) (v:Bool) (w:Int):Sr (Dg m a v w).2.1:=by
 unfold Dg; split
 ·exact h
 ·split
  ·exact SA h _ _
  ·exact h
theorem kT (h:Sr m) (w:Int):Sr (KX m a w).2.1:=by
 unfold KX; split
 ·exact h.Z3 _ _ _ _ _ _ (by decide) (.inl (by decide))
 ·exact h
theorem eD (h:Sr m):Sr (L5 m a):=by
 unfold L5; split
 ·exact h
 ·exact oE h _
theorem kX (h:Sr m) (w:Int):Sr (GJ m a w).2.1:=by
 unfold GJ; split
 ·exact h
 ·split
  ·exact dR h _ _
  ·split
   ·exact eD h
   ·exact eD h
theorem aE (h:Sr m) (w:Int):Sr (UI m a w).2.1:=by
 unfold UI; split
 ·exact kT h w
 split
 ·exact Uc h _
 split
 ·exact Uc h _
 split
 ·unfold SP; split
  ·exact Uc h _
  ·exact Uc h _
 split
 ·exact dR h _ _
 ·exact kX h w
theorem kj (h:Sr m) {r d c:Int} {pr:PR} (hp:Sr pr.2.1):Sr (Bu m a r d c pr).2.1:=by
 unfold Bu; split
 ·split
  ·split
   ·split
    ·exact hp.place _ _ _ _
    ·exact hp.place _ _ _ _
   ·exact hp
  ·exact hp
 ·exact h
theorem qw (h:Sr m) (r d c:Int):Sr (Uh m a r d c).2.1:=kj h (aE h _)
def K8 (σ:Aa) (rb:Nat) (j:RI) (a:AS):Prop:=σ[rb]?=some (.cells (a.row j.hb) C0 true)
theorem K8.Ys (h:K8 σ rb j a):JC σ rb 0=some (Cg j):=by unfold K8 AS.row at h; simp[JC,G1,h,Yt]
theorem K8.l1 (h:K8 σ rb j a):Ai .i64 σ rb 1=some a.s:=by unfold K8 AS.row at h; simp[Ai,G1,h,B8]
theorem K8.l2 (h:K8 σ rb j a):Ai .i64 σ rb 2=some a.p:=by unfold K8 AS.row at h; simp[Ai,G1,h,B8]
theorem K8.l3 (h:K8 σ rb j a):Ai .i64 σ rb 3=some a.c:=by unfold K8 AS.row at h; simp[Ai,G1,h,B8]
theorem K8.l4 (h:K8 σ rb j a):Ai .i64 σ rb 4=some a.l:=by unfold K8 AS.row at h; simp[Ai,G1,h,B8]
theorem K8.l5 (h:K8 σ rb j a):Ai .i64 σ rb 5=some a.oc:=by unfold K8 AS.row at h; simp[Ai,G1,h,B8]
theorem K8.l6 (h:K8 σ rb j a):Ai .i64 σ rb 6=some a.ol:=by unfold K8 AS.row at h; simp[Ai,G1,h,B8]
theorem K8.CX {σ':Aa} {j':RI} (h:K8 σ rb j a) (hs:σ'[rb]?=σ[rb]?) (hj:j'.hb=j.hb):K8 σ' rb j' a:=by unfold K8; rw[hs,hj]; exact h
theorem K8.put (h:K8 σ rb j a) (a':AS):K8 (σ.set rb (.cells (a'.row j.hb) C0 true)) rb j a':=by
 unfold K8; rw[List.getElem?_set_self (Ae h)]
theorem K8.G7 (h:K8 σ rb j a) (o:Nat) (v:Value) (a':AS) (hv:(a.row j.hb).set o v=a'.row j.hb) (hl:o<7):AX.G7 σ rb o v=some (σ.set rb (.cells (a'.row j.hb) C0 true)):=by
 have h':=h
 unfold K8 at h'
 simp only[AX.G7,h']
 rw[if_pos (by simpa [AS.row] using hl),hv]
structure Ug (σ:Aa) (j:RI) (rb:Nat) (m:HM) (t:RM) (a:AS):Prop where
 g:RG σ j m t
 P:Oo m
 M:Sr m
 al:K8 σ rb j a
 off:rb ∉ j.l
theorem Ug.app (h:Ug σ j rb m t a) (τ:Aa):Ug (σ++τ) j rb m t a:=⟨h.g.app τ,h.P,h.M,h.al.CX (List.getElem?_append_left (Ae h.al)) rfl,h.off⟩
structure Er (j j':RI) (rb:Nat) (σ σ':Aa):Prop where
 len:σ.length≤σ'.length
 same:∀ q,q<σ.length→q ∉ j.l→q≠rb→σ'[q]?=σ[q]?
 new:∀ q,q ∈ j'.l→q ∈ j.l∨σ.length≤q
 hb:j'.hb=j.hb
theorem Er.of {j':RI} {σ':Aa} (h:Hf j j' σ σ'):Er j j' rb σ σ':=⟨h.len,fun q h1 h2 _=>h.same q h1 h2,h.new,h.hb⟩
theorem Er.app (j:RI) (σ τ:Aa):Er j j rb σ (σ++τ):=.of (Hf.app j σ τ)
theorem Er.refl (j:RI) (σ:Aa):Er j j rb σ σ:=.of (Hf.refl j σ)
theorem Er.set (j:RI) (σ:Aa) (o:AY):Er j j rb σ (σ.set rb o):=⟨by simp,fun q _ _ h=>List.getElem?_set_ne fun e=>h e.symm,fun _ h=>.inl h,rfl⟩
theorem Er.trans {x y z:Aa} {j j' j'':RI} (h:Er j j' rb x y) (g:Er j' j'' rb y z):Er j j'' rb x z:=by
 refine ⟨Nat.le_trans h.len g.len,fun q h1 h2 h3=>?_,fun q hq=>?_,g.hb.trans h.hb⟩
 ·refine (g.same q (Nat.lt_of_lt_of_le h1 h.len) (fun hm=>?_) h3).trans (h.same q h1 h2 h3)
  rcases h.new q hm with h4 | h4
  ·exact h2 h4
  ·omega
 ·rcases g.new q hq with h1 | h1
  ·exact h.new q h1
  ·exact .inr (Nat.le_trans h.len h1)
theorem Ug.Sj (h:Ug σ j rb m t a) (a':AS):Ug (σ.set rb (.cells (a'.row j.hb) C0 true)) j rb m t a':=
 ⟨h.g.CX (fun q hq=>List.getElem?_set_ne fun e=>h.off (by rw[e]; exact hq)) (by simp),h.P,h.M,h.al.put a',h.off⟩
def RQ (mm:Option (Value × Aa)) (σ:Aa) (j:RI) (rb:Nat) (v:Value) (m':HM) (a':AS):Prop:=
 ∃ σ' j' t',mm=some (v,σ')∧Ug σ' j' rb m' t' a'∧Er j j' rb σ σ'
theorem Ug.sg (h:Ug σ j rb m t a) {mm:Option (Value × Aa)} {v:Value} {m':HM} (hg:Hw mm σ j v m') (hM:Sr m'):RQ mm σ j rb v m' a:=by
 obtain ⟨σ',j',t',e,r,s,p,k⟩:=hg
 refine ⟨σ',j',t',e,⟨⟨r,s,hM.inv,hM.inv2,hM.sh.wl,hM.nb,hM.nt⟩,p,hM,h.al.CX (k.same rb (Ae h.al) h.off) k.hb,fun hm=>?_⟩,.of k⟩
 rcases k.new rb hm with h1 | h1
 ·exact h.off h1
 ·have:=Ae h.al; omega
theorem tR (x:Addr):UH P F2 (.pointer (some x)) (.pointer none)=some false:=by kernel_rfl
theorem fu (k:Nat) (h:Ug σ j rb m t a):CK (k+2) (DC rb) σ=some (.bool true,σ):=by
 rw[Rh,Nz]
 simp only[tR,Option.bind_some,Bool.not_false,cond_true,Nat.zero_add,Nat.add_zero,h.al.Ys,I9 k h.g,Au]
def jX (m:HM) (c:Nat):Nat→Nat→Option Nat
 | 0,_=>none
 | n+1,x=>if x+c≤m.bls.length then (if Iv m.bls x c 0=none then some x else jX m c n (x+1)) else none
theorem iN {c:Nat}:∀ {n x b:Nat},jX m c n x=some b→x≤b∧b+c≤m.bls.length
 | 0,x,b,h=>by cases h
 | n+1,x,b,h=>by
   unfold jX at h
   split at h
   ·split at h
    ·cases h; exact ⟨Nat.le_refl _,by assumption⟩
    ·have:=iN h; omega
   ·cases h
theorem iU {c:Nat} {s:Int} (hs:0≤s∧s<8) (hc:1≤c):∀ (n x:Nat),1≤x→dB m c s n x=jX m c n x
 | 0,x,_=>rfl
 | n+1,x,hx=>by
   unfold dB jX
   by_cases q:x+c≤m.bls.length
   ·rw[if_pos q,if_pos q,iU hs hc n (x+1) (by omega)]
    have e:(1≤(x:Int)∧(x:Int)<(m.bls.length:Int)∧(1:Int)≤(c:Int)∧(c:Int)≤(m.bls.length:Int)-(x:Int)∧UD s=true):=⟨by omega,by omega,by omega,by omega,by unfold UD; simpa using hs⟩
    unfold Bs
    rw[if_pos e,Int.toNat_natCast,Int.toNat_natCast]
    by_cases q2:Iv m.bls x c 0=none
    ·rw[if_pos q2,if_pos q2,if_pos rfl]
    ·rw[if_neg q2,if_neg q2,if_neg (by dsimp only; decide)]
   ·rw[if_neg q,if_neg q]
theorem bP:∀ (n x:Nat),x+n=m.bls.length→SH m n x=jX m 1 (n+1) x
 | 0,x,h=>by unfold SH jX; rw[if_neg (by omega)]
 | n+1,x,h=>by
   rw[SH,jX,if_pos (show x+1≤m.bls.length by omega),bP n (x+1) (by omega)]
   by_cases q:(m.bls.getD x (0,0)).1=0∧(m.bls.getD x (0,0)).2=0
   ·rw[if_pos q,if_pos (show Iv m.bls x 1 0=none by simp only[Iv,Nat.add_zero,q,and_self,if_true])]
   ·rw[if_neg q,if_neg (show ¬ Iv m.bls x 1 0=none by simp only[Iv,Nat.add_zero,if_neg q]; simp)]
theorem Xc (h:1≤m.bls.length):Kt m=jX m 1 m.bls.length 1:=by
 unfold Kt
 rw[bP _ _ (by omega)]
 congr 1; omega
theorem bR (k:Nat) (h:RG σ j m t) (hz:FZ m) {c x:Nat} (hx:x+c≤m.bls.length):∀ (n y f:Nat),y+n=c→n<f→Iv m.bls x y 0=none →
  ∃ r:Nat,HF (k+2) f (Cg j) (c:Int) (x:Int) (y:Int) σ=some (.exit 2,[.int .i64 (r:Int)],σ)∧(r=c↔Iv m.bls x c 0=none)∧r≤c
 | n,y,0,hy,hf,hu=>by omega
 | 0,y,f+1,hy,hf,hu=>by
   rw[QK,PA]
   obtain rfl:y=c:=by omega
   exact ⟨y,by simp only[decide_eq_false (Int.lt_irrefl _),cond_false,Option.bind_some],⟨fun _=>hu,fun _=>rfl⟩,Nat.le_refl _⟩
 | n+1,y,f+1,hy,hf,hu=>by
   have hnt:=h.nt
   rw[QK,PA]
   have w1:Ad ((x:Int)+(y:Int))=((x+y:Nat):Int):=Ac (by unfold AN; omega)
   have w2:Ad ((y:Int)+1)=((y+1:Nat):Int):=Ac (by unfold AN; omega)
   have es:Ji m ((x+y:Nat):Int)=(m.bls.getD (x+y) (0,0)).1:=by
    unfold Ji; rw[if_pos (by omega),Int.toNat_natCast]
   simp only[decide_eq_true (show (y:Int)<(c:Int) by omega),cond_true,w1,SS k h,es,Option.bind_some,Am]
   by_cases q:(m.bls.getD (x+y) (0,0)).1=0
   ·have hu':Iv m.bls x (y+1) 0=none:=by
     rw[Wb hz] at hu ⊢
     intro c' c1 c2
     by_cases q2:c'=y
     ·rw[q2]; exact q
     ·exact hu c' c1 (by omega)
    obtain ⟨r,e1,e2,e3⟩:=bR k h hz hx n (y+1) f (by omega) (by omega) hu'
    exact ⟨r,by simp only[show ((m.bls.getD (x+y) (0,0)).1 == 0)=true from by simpa using q,cond_true,w2,e1],e2,e3⟩
   ·refine ⟨y,by simp only[show ((m.bls.getD (x+y) (0,0)).1 == 0)=false from by simpa using q,cond_false],⟨fun hh=>by omega,fun hh=>?_⟩,by omega⟩
    rw[Wb hz] at hh
    exact absurd (hh y (by omega) (by omega)) q
theorem bQ (k:Nat) (hk:5000≤k) (h:RG σ j m t) (hz:FZ m) {c:Nat} (hc:c≤100):∀ (n x f:Nat),m.bls.length<x+n→x≤200→n<f →
  HE (k+2) f (Cg j) (c:Int) (x:Int) σ=some (match jX m c n x with | some b=>(.ret,[.int .i64 (b:Int)],σ) | none=>(.exit 0,[],σ))
 | n,x,0,hx,hx2,hf=>by omega
 | n,x,f+1,hx,hx2,hf=>by
   have hnt:=h.nt
   have w1:Ad ((x:Int)+(c:Int))=((x+c:Nat):Int):=Ac (by unfold AN; omega)
   have w2:Ad ((x:Int)+1)=((x+1:Nat):Int):=Ac (by unfold AN; omega)
   have eb:Bw (k+2) (Cg j) σ=_:=QU k h
   rw[WZ,Uk]
   simp only[eb,Option.bind_some,Am,w1]
   by_cases q:x+c≤m.bls.length
   ·obtain ⟨n,rfl⟩:∃ n',n=n'+1:=⟨n-1,by omega⟩
    obtain ⟨r,e1,e2,e3⟩:=bR k h hz q c 0 (k+2) (by omega) (by omega) rfl
    rw[show ((0:Nat):Int)=0 from rfl] at e1
    simp only[decide_eq_true (show ((x+c:Nat):Int)≤((m.bls.length:Nat):Int) by omega),cond_true,e1,Option.bind_some,if_true,Ds,jX,if_pos q,w2]
    by_cases q2:Iv m.bls x c 0=none
    ·rw[if_pos q2,show ((r:Int) == (c:Int))=true from by have:=e2.2 q2; simp[this]]; rfl
    ·rw[if_neg q2,show ((r:Int) == (c:Int))=false from by rw[beq_eq_false_iff_ne]; intro hh; exact q2 (e2.1 (by omega))]
     simp only[cond_false]
     exact bQ k hk h hz hc n (x+1) f (by omega) (by omega) (by omega)
   ·have z:jX m c n x=none:=by
     cases n with
     | zero=>rfl
     | succ n=>rw[jX,if_neg q]
    simp only[decide_eq_false (show ¬ ((x+c:Nat):Int)≤((m.bls.length:Nat):Int) by omega),cond_false,z]
theorem ar (k:Nat) (hk:5000≤k) (h:RG σ j m t) (hz:FZ m) {c:Nat} (hc:c≤100):E7 (k+3) (Cg j) (c:Int) σ=some (.int .i64 (match jX m c m.bls.length 1 with | some b=>(b:Int) | none=>0),σ):=by
 have hnt:=h.nt
 have e:=bQ k hk h hz hc m.bls.length 1 (k+2) (by omega) (by omega) (by omega)
 rw[show ((1:Nat):Int)=1 from rfl] at e
 rw[ag,X7]
 simp only[e,Option.bind_some]
 cases jX m c m.bls.length 1 with
 | none=>simp only[if_true]
 | some b=>simp only[show (Bm.ret=Bm.exit 0)=False from by simp,if_false,if_true,Ds]
def hJ (m:HM) (s x:Int) (r d c:Int):(Int × Int) × HM:=
 if ¬ words r d c>32∧NX m (x.tdiv 64)≠s then ((0,6),m)
 else if (Bv m x r d c).2.1=0 then ((x,0),(Bv m x r d c).2.2) else ((0,6),(Bv m x r d c).2.2)
theorem pW (m:HM) (b:Int):Xr m b=NX m b:=rfl
theorem SU (k:Nat) (hk:5000≤k) (h:Ug σ j rb m t a) {x:Int} (hx:0≤x∧x≤100000) (bl:Nat) {r d c:Int} (hb:m.births<1000000) {m1:HM} (hm1:m1=if 0<bl then Dh m bl a.s else m):
  RQ (Aw (k+6) (DC rb) x (bl:Int) r d c σ) σ j rb (.tuple #[.int .i64 (hJ m1 a.s x r d c).1.1,.int .i64 (hJ m1 a.s x r d c).1.2]) (hJ m1 a.s x r d c).2 a:=by
 have bx:∀ {μ:Aa} {q:Nat},μ[q]?=some (AY.cells [Value.int .i64 r,.int .i64 d,.int .i64 c] Ag true)→Ai .i64 μ q 0=some r∧Ai .i64 μ q 1=some d∧Ai .i64 μ q 2=some c:=by
  intro μ q hm; simp[Ai,G1,hm,B8]
 have hlt:=Ae h.al
 have hns:σ.length ∉ j.l:=fun hm=>Nat.lt_irrefl _ (h.g.at_.lt _ hm)
 obtain ⟨μ0,hμ0⟩:∃ μ0,σ++[AY.cells [Value.int .i64 r,.int .i64 d,.int .i64 c] Ag true]=μ0:=⟨_,rfl⟩
 have h0:Ug μ0 j rb m t a:=hμ0 ▸ h.app _
 have K0:Er j j rb σ μ0:=hμ0 ▸ Er.app j σ _
 have S0:μ0[σ.length]?=some (AY.cells [Value.int .i64 r,.int .i64 d,.int .i64 c] Ag true):=by rw[← hμ0]; simp
 obtain ⟨μ1,j1,t1,e1,h1,K1,S1⟩:∃ μ1 j1 t1,((bif decide ((bl:Int)>0) then ((CR (k+5) (Cg j) (bl:Int) a.s μ0).bind fun r7=>(B8 .i64 r7.1).bind fun n8=>some (Bm.normal,[],r7.2)) else (some (Bm.normal,[],μ0)):Option Ay))=some (.normal,[],μ1)∧Ug μ1 j1 rb m1 t1 a∧Er j j1 rb σ μ1∧μ1[σ.length]?=some (AY.cells [Value.int .i64 r,.int .i64 d,.int .i64 c] Ag true):=by
  by_cases q:0<bl
  ·rw[if_pos q] at hm1
   obtain ⟨μ1,j1,t1,e1,h1,K1⟩:=h0.sg (fj (k+3) h0.g h0.P h0.M.fz (bl:Int) a.s) (by rw[show (Bs m (bl:Int) 1 1 a.s 0 0).2=Dh m bl a.s from rfl]; exact SA h.M _ _)
   refine ⟨μ1,j1,t1, ?_,by rw[hm1]; exact h1,K0.trans K1,by rw[K1.same _ (Ae S0) hns (by omega)]; exact S0⟩
   rw[decide_eq_true (show (bl:Int)>0 by omega)]
   simp only[cond_true,e1,Option.bind_some,Am]
  ·rw[if_neg q] at hm1
   exact ⟨μ0,j,t,by rw[decide_eq_false (show ¬ (bl:Int)>0 by omega)]; rfl,by rw[hm1]; exact h0,K0,S0⟩
 have hM1:=h1.M
 have hb1:m1.births<1000000:=by
  rw[hm1]; split
  ·unfold Dh; rw[Tx]; exact hb
  ·exact hb
 obtain ⟨τ2,e2⟩:=YZ (k+2) r d c μ1
 obtain ⟨μ2,hμ2⟩:∃ μ2,μ1++τ2=μ2:=⟨_,rfl⟩
 rw[hμ2] at e2
 have e2':EM (k+5) r d c μ1=_:=e2
 have h2:Ug μ2 j1 rb m1 t1 a:=hμ2 ▸ h1.app _
 have K2:Er j j1 rb σ μ2:=hμ2 ▸ K1.trans (Er.app _ _ _)
 have S2:μ2[σ.length]?=some (AY.cells [Value.int .i64 r,.int .i64 d,.int .i64 c] Ag true):=by rw[← hμ2,List.getElem?_append_left (Ae S1)]; exact S1
 obtain ⟨a0,a1,a2⟩:=bx S1
 obtain ⟨c0,c1,c2⟩:=bx S2
 have wq:Ad (x.tdiv 64)=x.tdiv 64:=by
  rw[Int.tdiv_eq_ediv_of_nonneg hx.1]; exact Ac (by unfold AN; omega)
 have es:Cc (k+5) (Cg j1) (x.tdiv 64) μ2=_:=Za (k+3) h2.g (x.tdiv 64)
 obtain ⟨μ3,j3,t3,e3,h3,K3⟩:=h2.sg (fq k hk h2.g h2.P hM1.sh hb1 x r d c) (hM1.place x r d c)
 rw[QJ,MV]
 unfold hJ
 simp only[Ao,hμ0,Option.bind_some,Nat.zero_add,Nat.add_zero,h0.al.Ys,h0.al.l1,e1,if_true,Nat.reduceAdd,a0,a1,a2,e2',Au,h2.al.Ys,wq,es,Am,h2.al.l1,pW,c0,c1,c2,e3,Ed]
 rw[if_neg (show ¬ (64:Int)=0 by decide)]
 have fin:RQ (bif (Bv m1 x r d c).2.1 != 0 then (some (.tuple #[.int .i64 (0:Int),.int .i64 (6:Int)],μ3)) else (some (.tuple #[.int .i64 x,.int .i64 (0:Int)],μ3))) σ j rb (.tuple #[.int .i64 (if (Bv m1 x r d c).2.1=0 then ((x,(0:Int)),(Bv m1 x r d c).2.2) else ((0,6),(Bv m1 x r d c).2.2)).1.1,.int .i64 (if (Bv m1 x r d c).2.1=0 then ((x,(0:Int)),(Bv m1 x r d c).2.2) else ((0,6),(Bv m1 x r d c).2.2)).1.2]) (if (Bv m1 x r d c).2.1=0 then ((x,(0:Int)),(Bv m1 x r d c).2.2) else ((0,6),(Bv m1 x r d c).2.2)).2 a:=by
  by_cases q:(Bv m1 x r d c).2.1=0
  ·rw[if_pos q,show ((Bv m1 x r d c).2.1 != 0)=false from by simpa using q]
   exact ⟨μ3,j3,t3,rfl,h3,K2.trans K3⟩
  ·rw[if_neg q,show ((Bv m1 x r d c).2.1 != 0)=true from by simpa using q]
   exact ⟨μ3,j3,t3,rfl,h3,K2.trans K3⟩
 by_cases q:words r d c>32
 ·rw[if_neg (show ¬ (¬ words r d c>32∧NX m1 (x.tdiv 64)≠a.s) from fun hh=>hh.1 q)]
  simp only[decide_eq_true q,Bool.not_true,cond_false,Option.bind_some,h2.al.Ys,c0,c1,c2,e3,Ed]
  exact fin
 ·by_cases q2:NX m1 (x.tdiv 64)=a.s
  ·rw[if_neg (show ¬ (¬ words r d c>32∧NX m1 (x.tdiv 64)≠a.s) from fun hh=>hh.2 q2)]
   simp only[decide_eq_false q,Bool.not_false,cond_true,Option.bind_some,q2,bne_self_eq_false,cond_false,h2.al.Ys,c0,c1,c2,e3,Ed]
   exact fin
  ·rw[if_pos (show (¬ words r d c>32∧NX m1 (x.tdiv 64)≠a.s) from ⟨q,q2⟩)]
   simp only[decide_eq_false q,Bool.not_false,cond_true,Option.bind_some,show (NX m1 (x.tdiv 64) != a.s)=true from by simpa using q2]
   exact ⟨μ2,j1,t1,rfl,h2,K2⟩
theorem VS {m1:HM} {r d c:Int} {pr:PR} (hv:valid r d c=true) (hw:¬ words r d c>32) (ho:pr.1.2=true) (hm:pr.2.1=m1):Bu m a r d c pr=((hJ m1 a.s pr.1.1 r d c).1,(hJ m1 a.s pr.1.1 r d c).2,if (hJ m1 a.s pr.1.1 r d c).1.2=0 then pr.2.2 else a):=by
 unfold Bu hJ
 rw[if_pos hv,if_pos ho,hm]
 by_cases q:NX m1 (pr.1.1.tdiv 64)=a.s
 ·rw[if_pos q,if_neg (show ¬ (¬ words r d c>32∧NX m1 (pr.1.1.tdiv 64)≠a.s) from fun hh=>hh.2 q)]
  by_cases q2:(Bv m1 pr.1.1 r d c).2.1=0
  ·rw[if_pos q2,if_pos q2,if_pos rfl]
  ·rw[if_neg q2,if_neg q2,if_neg (by dsimp only; decide)]
 ·rw[if_neg q,if_pos ⟨hw,q⟩,if_neg (by dsimp only; decide)]
end Go.Proofs.YtlaplcglpnlieaaGreat
end
section
namespace Go.Proofs.YtlaplcglpnlieaaGreat
open Go Go.AX
noncomputable local instance wj:AK:=As
local instance uW:Kn:=⟨true⟩
variable {σ:Aa} {m:HM} {t:RM} {j:RI} {rb:Nat} {a:AS}
theorem cE (k:Nat) (hk:5000≤k) (h:Ug σ j rb m t a) (ho:a.ok) {r d c w:Int} (hv:valid r d c=true) (hw:words r d c=w) (hw2:¬ w>32) (hb:m.births<1000000):
  RQ (D7 (k+8) (DC rb) r d c w σ) σ j rb (.tuple #[.int .i64 (Bu m a r d c (Dg m a false w)).1.1,.int .i64 (Bu m a r d c (Dg m a false w)).1.2]) (Bu m a r d c (Dg m a false w)).2.1 (Bu m a r d c (Dg m a false w)).2.2:=by
 have hc0:=ho.c0; have hl0:=ho.l0; have hoc:=ho.oc0; have hol:=ho.ol0
 have hnt:=h.g.nt; have hnb:=h.g.nb
 have hwp:=HH hv
 rw[hw] at hwp
 have bx:∀ {μ:Aa} {q:Nat},μ[q]?=some (AY.cells [Value.int .i64 r,.int .i64 d,.int .i64 c] Ag true)→Ai .i64 μ q 0=some r∧Ai .i64 μ q 1=some d∧Ai .i64 μ q 2=some c:=by
  intro μ q hm; simp[Ai,G1,hm,B8]
 obtain ⟨μ0,hμ0⟩:∃ μ0,σ++[AY.cells [Value.int .i64 r,.int .i64 d,.int .i64 c] Ag true]=μ0:=⟨_,rfl⟩
 have h0:Ug μ0 j rb m t a:=hμ0 ▸ h.app _
 have K0:Er j j rb σ μ0:=hμ0 ▸ Er.app j σ _
 have S0:μ0[σ.length]?=some (AY.cells [Value.int .i64 r,.int .i64 d,.int .i64 c] Ag true):=by rw[← hμ0]; simp
 obtain ⟨b0,b1,b2⟩:=bx S0
 have ef:=ar (k+4) (by omega) h0.g h0.M.fz (c:=1) (by decide)
 rw[← Xc (by omega),show ((1:Nat):Int)=1 from rfl] at ef
 have ef':E7 (k+7) (Cg j) 1 μ0=_:=ef
 have wd:Ad (a.l-a.c)=a.l-a.c:=Ac (by unfold AN; omega)
 have fin:∀ (x e:Int) (bl:Nat) (m1:HM),0≤x∧x≤20000→m1=(if 0<bl then Dh m bl a.s else m)→Dg m a false w=((x,true),m1,a.put false (x+w) e)→RQ ((Aw (k+7) (DC rb) x (bl:Int) r d c μ0).bind fun r18=>Gq r18.1 fun n19 n20=>(bif n20 == (0:Int) then ((G7 r18.2 rb 3 (.int .i64 (Ad (x+w)))).bind fun s22=>(G7 s22 rb 4 (.int .i64 e)).bind fun s24=>some (.normal,[],s24)) else (some (.normal,[],r18.2)):Option Ay).bind fun r25=>if r25.1 = .normal then (some (.tuple #[.int .i64 n19,.int .i64 n20],r25.2.2)) else none) σ j rb (.tuple #[.int .i64 (Bu m a r d c (Dg m a false w)).1.1,.int .i64 (Bu m a r d c (Dg m a false w)).1.2]) (Bu m a r d c (Dg m a false w)).2.1 (Bu m a r d c (Dg m a false w)).2.2:=by
  intro x e bl m1 hx hm1 hpr
  rw[hpr,VS (m1:=m1) hv (by rw[hw]; exact hw2) rfl rfl]
  obtain ⟨μ1,j1,t1,e1,h1,K1⟩:=SU (k+1) (by omega) h0 (x:=x) (by omega) bl (r:=r) (d:=d) (c:=c) hb hm1
  dsimp only
  generalize hJ m1 a.s x r d c=pl at *
  have e1':Aw (k+7) (DC rb) x (bl:Int) r d c μ0=_:=e1
  simp only[e1',Option.bind_some,Ed,Ac (show AN (x+w) by unfold AN; omega)]
  by_cases q:pl.1.2=0
  ·rw[if_pos q]
   have s1:=h1.al.G7 3 (.int .i64 (x+w)) { a with c:=x+w } rfl (by decide)
   have h2:=h1.Sj { a with c:=x+w }
   have s2:=h2.al.G7 4 (.int .i64 e) (a.put false (x+w) e) rfl (by decide)
   have h3:=h2.Sj (a.put false (x+w) e)
   simp only[show (pl.1.2 == 0)=true from by simpa using q,cond_true,s1,Option.bind_some,s2,if_true]
   exact ⟨_,j1,t1,rfl,h3,((K0.trans K1).trans (Er.set _ _ _)).trans (Er.set _ _ _)⟩
  ·rw[if_neg q]
   simp only[show (pl.1.2 == 0)=false from by simpa using q,cond_false,Option.bind_some,if_true]
   exact ⟨μ1,j1,t1,rfl,h1,K0.trans K1⟩
 rw[Ri,N0]
 simp only[Ao,hμ0,Option.bind_some,Nat.zero_add,Nat.add_zero,Nat.reduceAdd,h0.al.l3,h0.al.l4,wd,h0.al.Ys,ef',Am]
 by_cases q:a.l-a.c≥w
 ·have hpr:Dg m a false w=((a.c,true),m,a.put false (a.c+w) a.l):=by
   unfold Dg; rw[if_pos (show a.li false-a.cu false≥w from q)]; rfl
  have:=fin a.c a.l 0 m (by omega) rfl hpr
  simp only[decide_eq_false (show ¬ a.l-a.c<w by omega),cond_false,Option.bind_some,if_true,Yp,b0,b1,b2]
  exact this
 ·simp only[decide_eq_true (show a.l-a.c<w by omega),cond_true]
  cases hf:Kt m with
  | none=>
    have hpr:Dg m a false w=((0,false),m,a):=by
     unfold Dg; rw[if_neg (show ¬ a.li false-a.cu false≥w from q),hf]
    have hX:Bu m a r d c (Dg m a false w)=((0,6),m,a):=by
     unfold Bu; rw[if_pos hv,hpr,if_neg (by dsimp only; decide)]
    rw[hX]
    simp only[beq_self_eq_true,cond_true,Option.bind_some,show (Bm.ret=Bm.normal)=False from by simp,if_false,if_true,GS]
    exact ⟨μ0,j,t,rfl,h0,K0⟩
  | some b=>
    have hb1:=Hp hf
    have hpr:Dg m a false w=((64*(b:Int),true),Dh m b a.s,a.put false (64*(b:Int)+w) (64*(b:Int)+64)):=by
     unfold Dg; rw[if_neg (show ¬ a.li false-a.cu false≥w from q),hf]
    have:=fin (64*(b:Int)) (64*(b:Int)+64) b (Dh m b a.s) (by omega) (by rw[if_pos (by omega)]) hpr
    have w1:Ad ((b:Int)*64)=64*(b:Int):=by rw[Ac (by unfold AN; omega)]; omega
    have w2:Ad ((b:Int)+1)=(b:Int)+1:=Ac (by unfold AN; omega)
    have w3:Ad (((b:Int)+1)*64)=64*(b:Int)+64:=by rw[Ac (by unfold AN; omega)]; omega
    simp only[show (((b:Nat):Int) == 0)=false from by rw[beq_eq_false_iff_ne]; omega,cond_false,w1,w2,w3,Option.bind_some,if_true,Yp,b0,b1,b2]
    exact this
theorem pS (k:Nat) (hk:5000≤k) (h:Ug σ j rb m t a) (ho:a.ok) {r d c w:Int} (hv:valid r d c=true) (hw:words r d c=w) (hw2:¬ w>32) (hb:m.births<1000000):
  RQ (Fy (k+8) (DC rb) r d c w σ) σ j rb (.tuple #[.int .i64 (Bu m a r d c (Dg m a true w)).1.1,.int .i64 (Bu m a r d c (Dg m a true w)).1.2]) (Bu m a r d c (Dg m a true w)).2.1 (Bu m a r d c (Dg m a true w)).2.2:=by
 have hc0:=ho.c0; have hl0:=ho.l0; have hoc:=ho.oc0; have hol:=ho.ol0
 have hnt:=h.g.nt; have hnb:=h.g.nb
 have hwp:=HH hv
 rw[hw] at hwp
 have bx:∀ {μ:Aa} {q:Nat},μ[q]?=some (AY.cells [Value.int .i64 r,.int .i64 d,.int .i64 c] Ag true)→Ai .i64 μ q 0=some r∧Ai .i64 μ q 1=some d∧Ai .i64 μ q 2=some c:=by
  intro μ q hm; simp[Ai,G1,hm,B8]
 obtain ⟨μ0,hμ0⟩:∃ μ0,σ++[AY.cells [Value.int .i64 r,.int .i64 d,.int .i64 c] Ag true]=μ0:=⟨_,rfl⟩
 have h0:Ug μ0 j rb m t a:=hμ0 ▸ h.app _
 have K0:Er j j rb σ μ0:=hμ0 ▸ Er.app j σ _
 have S0:μ0[σ.length]?=some (AY.cells [Value.int .i64 r,.int .i64 d,.int .i64 c] Ag true):=by rw[← hμ0]; simp
 obtain ⟨b0,b1,b2⟩:=bx S0
 have ef:=ar (k+4) (by omega) h0.g h0.M.fz (c:=1) (by decide)
 rw[← Xc (by omega),show ((1:Nat):Int)=1 from rfl] at ef
 have ef':E7 (k+7) (Cg j) 1 μ0=_:=ef
 have wd:Ad (a.ol-a.oc)=a.ol-a.oc:=Ac (by unfold AN; omega)
 have fin:∀ (x e:Int) (bl:Nat) (m1:HM),0≤x∧x≤20000→m1=(if 0<bl then Dh m bl a.s else m)→Dg m a true w=((x,true),m1,a.put true (x+w) e)→RQ ((Aw (k+7) (DC rb) x (bl:Int) r d c μ0).bind fun r18=>Gq r18.1 fun n19 n20=>(bif n20 == (0:Int) then ((G7 r18.2 rb 5 (.int .i64 (Ad (x+w)))).bind fun s22=>(G7 s22 rb 6 (.int .i64 e)).bind fun s24=>some (.normal,[],s24)) else (some (.normal,[],r18.2)):Option Ay).bind fun r25=>if r25.1 = .normal then (some (.tuple #[.int .i64 n19,.int .i64 n20],r25.2.2)) else none) σ j rb (.tuple #[.int .i64 (Bu m a r d c (Dg m a true w)).1.1,.int .i64 (Bu m a r d c (Dg m a true w)).1.2]) (Bu m a r d c (Dg m a true w)).2.1 (Bu m a r d c (Dg m a true w)).2.2:=by
  intro x e bl m1 hx hm1 hpr
  rw[hpr,VS (m1:=m1) hv (by rw[hw]; exact hw2) rfl rfl]
  obtain ⟨μ1,j1,t1,e1,h1,K1⟩:=SU (k+1) (by omega) h0 (x:=x) (by omega) bl (r:=r) (d:=d) (c:=c) hb hm1
  dsimp only
  generalize hJ m1 a.s x r d c=pl at *
  have e1':Aw (k+7) (DC rb) x (bl:Int) r d c μ0=_:=e1
  simp only[e1',Option.bind_some,Ed,Ac (show AN (x+w) by unfold AN; omega)]
  by_cases q:pl.1.2=0
  ·rw[if_pos q]
   have s1:=h1.al.G7 5 (.int .i64 (x+w)) { a with oc:=x+w } rfl (by decide)
   have h2:=h1.Sj { a with oc:=x+w }
   have s2:=h2.al.G7 6 (.int .i64 e) (a.put true (x+w) e) rfl (by decide)
   have h3:=h2.Sj (a.put true (x+w) e)
   simp only[show (pl.1.2 == 0)=true from by simpa using q,cond_true,s1,Option.bind_some,s2,if_true]
   exact ⟨_,j1,t1,rfl,h3,((K0.trans K1).trans (Er.set _ _ _)).trans (Er.set _ _ _)⟩
  ·rw[if_neg q]
   simp only[show (pl.1.2 == 0)=false from by simpa using q,cond_false,Option.bind_some,if_true]
   exact ⟨μ1,j1,t1,rfl,h1,K0.trans K1⟩
 rw[Rk,N2]
 simp only[Ao,hμ0,Option.bind_some,Nat.zero_add,Nat.add_zero,Nat.reduceAdd,h0.al.l5,h0.al.l6,wd,h0.al.Ys,ef',Am]
 by_cases q:a.ol-a.oc≥w
 ·have hpr:Dg m a true w=((a.oc,true),m,a.put true (a.oc+w) a.ol):=by
   unfold Dg; rw[if_pos (show a.li true-a.cu true≥w from q)]; rfl
  have:=fin a.oc a.ol 0 m (by omega) rfl hpr
  simp only[decide_eq_false (show ¬ a.ol-a.oc<w by omega),cond_false,Option.bind_some,if_true,Yp,b0,b1,b2]
  exact this
 ·simp only[decide_eq_true (show a.ol-a.oc<w by omega),cond_true]
  cases hf:Kt m with
  | none=>
    have hpr:Dg m a true w=((0,false),m,a):=by
     unfold Dg; rw[if_neg (show ¬ a.li true-a.cu true≥w from q),hf]
    have hX:Bu m a r d c (Dg m a true w)=((0,6),m,a):=by
     unfold Bu; rw[if_pos hv,hpr,if_neg (by dsimp only; decide)]
    rw[hX]
    simp only[beq_self_eq_true,cond_true,Option.bind_some,show (Bm.ret=Bm.normal)=False from by simp,if_false,if_true,GS]
    exact ⟨μ0,j,t,rfl,h0,K0⟩
  | some b=>
    have hb1:=Hp hf
    have hpr:Dg m a true w=((64*(b:Int),true),Dh m b a.s,a.put true (64*(b:Int)+w) (64*(b:Int)+64)):=by
     unfold Dg; rw[if_neg (show ¬ a.li true-a.cu true≥w from q),hf]
    have:=fin (64*(b:Int)) (64*(b:Int)+64) b (Dh m b a.s) (by omega) (by rw[if_pos (by omega)]) hpr
    have w1:Ad ((b:Int)*64)=64*(b:Int):=by rw[Ac (by unfold AN; omega)]; omega
    have w2:Ad ((b:Int)+1)=(b:Int)+1:=Ac (by unfold AN; omega)
    have w3:Ad (((b:Int)+1)*64)=64*(b:Int)+64:=by rw[Ac (by unfold AN; omega)]; omega
    simp only[show (((b:Nat):Int) == 0)=false from by rw[beq_eq_false_iff_ne]; omega,cond_false,w1,w2,w3,Option.bind_some,if_true,Yp,b0,b1,b2]
    exact this
theorem VD (k:Nat) (hk:5000≤k) (h:Ug σ j rb m t a):∀ (n x f:Nat) (τ:Aa) (o:En),x+n=m.bls.length→Cj Af 2 (σ++τ) o (EV m (Br m a.s x)).length (Bj (EV m (Br m a.s x)))→(∀ y,o.1=some y→σ.length≤y.block)→n<f →
  ∃ τ' o',D0 (k+4) f (DC rb) o (x:Int) (σ++τ)=some (.exit 0,[.slice o'.1 o'.2.1 o'.2.2],σ++τ')∧Cj Af 2 (σ++τ') o' (EV m (Br m a.s m.bls.length)).length (Bj (EV m (Br m a.s m.bls.length)))
 | n,x,0,τ,o,hx,hs,hb,hf=>by omega
 | 0,x,f+1,τ,o,hx,hs,hb,hf=>by
   obtain rfl:x=m.bls.length:=by omega
   have h1:=h.app τ
   have eb:Bw (k+4) (Cg j) (σ++τ)=_:=QU (k+2) h1.g
   rw[JO,H7]
   exact ⟨τ,o,by simp only[Option.bind_some,Nat.add_zero,h1.al.Ys,eb,Am,decide_eq_false (Int.lt_irrefl _),cond_false],hs⟩
 | n+1,x,f+1,τ,o,hx,hs,hb,hf=>by
   have hnt:=h.g.nt
   have h1:=h.app τ
   have hxl:x<m.bls.length:=by omega
   have eb:Bw (k+4) (Cg j) (σ++τ)=_:=QU (k+2) h1.g
   have e1:Bi (k+4) (Cg j) (x:Int) (σ++τ)=_:=SS (k+2) h1.g (x:Int)
   have e2:Cc (k+4) (Cg j) (x:Int) (σ++τ)=_:=Za (k+2) h1.g (x:Int)
   have es:Ji m (x:Int)=(m.bls.getD x (0,0)).1:=by unfold Ji; rw[if_pos (by omega),Int.toNat_natCast]
   have ep:Xr m (x:Int)=(m.bls.getD x (0,0)).2:=by unfold Xr; rw[if_pos (by omega),Int.toNat_natCast]
   have w1:Ad ((x:Int)+1)=((x+1:Nat):Int):=Ac (by unfold AN; omega)
   rw[JO,H7]
   simp only[Option.bind_some,Nat.add_zero,Nat.zero_add,h1.al.Ys,eb,Am,decide_eq_true (show (x:Int)<((m.bls.length:Nat):Int) by omega),cond_true,e1,e2,es,ep,h1.al.l1,w1]
   rw[mc]
   by_cases q:(m.bls.getD x (0,0)).1=1∧(m.bls.getD x (0,0)).2=a.s
   ·obtain ⟨τ1,s1,e3,g1,lo1⟩:=pK k hk h1.g (x:Int)
    have hlen:=Qn m (x:Int)
    have hol:(EV m (Br m a.s x)).length≤64*33:=by
     have hb2:=KH m a.s x
     have aux:∀ L:List Nat,(L.flatMap fun b:Nat=>Ha m (b:Int)).length≤L.length*33:=by
      intro L
      induction L with
      | nil=>simp
      | cons b L ih=>
        have:=Qn m (b:Int)
        rw[List.flatMap_cons,List.length_append,List.length_cons]; omega
     have:=aux (Br m a.s x)
     unfold EV; omega
    have hnext:EV m (Br m a.s (x+1))=EV m (Br m a.s x)++Ha m (x:Int):=by
     rw[N7,if_pos q]; simp[EV]
    obtain ⟨o1,τ2,e4,g2,lo2⟩:∃ o1 τ2,Bo P Af (o.1,o.2.1,o.2.2) (s1.1,s1.2.1,s1.2.2) (σ++τ++τ1)=some (o1,σ++τ2)∧Cj Af 2 (σ++τ2) o1 (EV m (Br m a.s (x+1))).length (Bj (EV m (Br m a.s (x+1)))) ∧ ∀ y,o1.1=some y→σ.length≤y.block:=by
     have f0:=g1.first
     have l2:=g1.len
     rw[hnext]
     by_cases hz:Ha m (x:Int)=[]
     ·rw[hz] at f0 l2
      refine ⟨o,τ++τ1, ?_,by rw[hz,List.append_nil,← List.append_assoc]; exact hs.app _,hb⟩
      rw[show s1.2.1=0 from l2,← List.append_assoc]
      exact UY gS gj gY rfl rfl (by decide) (σ++τ++τ1) o _ _ s1.1 s1.2.2 (hs.app _) f0
     ·have hp:0<(Ha m (x:Int)).length:=List.length_pos_iff.2 hz
      obtain ⟨o1,μ3,e,g,hh⟩:=Tl gS gj gY rfl rfl (by decide) (by decide) (by decide) (σ++τ++τ1) o _ _ s1.1 (Ha m (x:Int)).length s1.2.2 (Bj (Ha m (x:Int))) (by omega) hp (MF _) (hs.app _) f0
      rw[List.append_assoc] at g
      obtain ⟨⟨τ2,rfl⟩,h2⟩:=g.behind hb
      rw[l2]
      exact ⟨o1,τ2,e,by rw[Lb,List.length_append]; exact hh,h2⟩
    obtain ⟨τ3,o3,e5,g3⟩:=VD k hk h n (x+1) f τ2 o1 (by omega) g2 lo2 (by omega)
    refine ⟨τ3,o3, ?_,g3⟩
    simp only[decide_eq_true q,Option.bind_some,cond_true,h1.al.Ys,e3,Hs,e4,if_true,Gj]
    exact e5
   ·obtain ⟨τ3,o3,e5,g3⟩:=VD k hk h n (x+1) f τ o (by omega) (by rw[N7,if_neg q,List.append_nil]; exact hs) hb (by omega)
    refine ⟨τ3,o3, ?_,g3⟩
    simp only[decide_eq_false q,Option.bind_some,cond_false,if_true,Gj]
    exact e5
theorem pQ (k:Nat) (hk:5000≤k) (h:Ug σ j rb m t a):∃ τ o,Fx (k+5) (DC rb) σ=some (.slice o.1 o.2.1 o.2.2,σ++τ)∧Cj Af 2 (σ++τ) o (EV m (Br m a.s m.bls.length)).length (Bj (EV m (Br m a.s m.bls.length))):=by
 have hnt:=h.g.nt; have hnb:=h.g.nb
 have hb1:Br m a.s 1=[]:=by
  rw[N7]
  have hb0:=h.M.b0
  unfold B0 at hb0
  rw[if_neg (by omega)]; rfl
 obtain ⟨τ,o,e,g⟩:=VD k hk h (m.bls.length-1) 1 (k+4) [] (none,0,0) (by omega) (by rw[hb1]; exact Cj.nil _ _ _) (fun y hy=>by cases hy) (by omega)
 rw[List.append_nil,show ((1:Nat):Int)=1 from rfl] at e
 refine ⟨τ,o, ?_,g⟩
 rw[Rj,N1]
 simp only[e,Option.bind_some,if_true,Gj]
theorem XB (k:Nat) (h:Ug σ j rb m t a) {cc w:Nat} (hcc:a.c=(cc:Int)) (hc2:cc≤10000) (hw:1≤w∧w≤1000) {R:List (Nat × Nat)} (hR:R.length≤5000) (hRb:∀ g ∈ R,g.1+g.2≤10000) {s:En} (hs:Cj Af 2 σ s R.length (Bj R)):∀ (n x f:Nat),x+n=R.length→n<f →
  CT k f (DC rb) (w:Int) s.1 R.length s.2.2 (x:Int) σ=some (match ((R.drop x).filterMap (KJ cc w)).head? with | some g=>(.ret,[.int .i64 (g.1:Int),.bool true],σ) | none=>(.exit 0,[],σ))
 | n,x,0,hx,hf=>by omega
 | 0,x,f+1,hx,hf=>by
   rw[Ja,GN,List.drop_of_length_le (by omega)]
   simp only[decide_eq_false (show ¬ (x:Int)<((R.length:Nat):Int) by omega),cond_false]
   rfl
 | n+1,x,f+1,hx,hf=>by
   have hxl:x<R.length:=by omega
   obtain ⟨b,e0,l0,l1⟩:=TW hs hxl
   have eg:R.getD x (0,0)=R[x]:=by rw[List.getD_eq_getElem?_getD,List.getElem?_eq_getElem hxl]; rfl
   rw[eg] at l0 l1
   have hg:=hRb _ (List.getElem_mem hxl)
   have qx:(0≤(x:Int)∧(x:Int)<((R.length:Nat):Int))=True:=eq_true (by omega)
   have w1:Ad ((x:Int)+1)=((x+1:Nat):Int):=Ac (by unfold AN; omega)
   have w2:Ad (((R[x]).1:Int)+((R[x]).2:Int))=(((R[x]).1+(R[x]).2:Nat):Int):=Ac (by unfold AN; omega)
   have w3:(if a.c>((R[x]).1:Int) then a.c else ((R[x]).1:Int))=((max cc (R[x]).1:Nat):Int):=by rw[hcc]; split <;> omega
   have w4:Ad ((((R[x]).1+(R[x]).2:Nat):Int)-((max cc (R[x]).1:Nat):Int))=(((R[x]).1+(R[x]).2:Nat):Int)-((max cc (R[x]).1:Nat):Int):=Ac (by unfold AN; omega)
   have ih:=XB k h hcc hc2 hw hR hRb hs n (x+1) f (by omega) (by omega)
   rw[e0] at ih
   have hdr:R.drop x=R[x]::R.drop (x+1):=List.drop_eq_getElem_cons hxl
   rw[Ja,GN,hdr]
   simp only[decide_eq_true (show (x:Int)<((R.length:Nat):Int) by omega),cond_true,qx,if_true,e0,Option.bind_some,Int.toNat_natCast,Nat.zero_add,Nat.add_zero,l0,l1,h.al.l3,w1,w2,w3,w4,ih]
   by_cases q:w≤(R[x]).1+(R[x]).2-max cc (R[x]).1
   ·have hc:KJ cc w R[x]=some (max cc (R[x]).1,(R[x]).1+(R[x]).2-max cc (R[x]).1):=by unfold KJ; rw[if_pos q]
    rw[List.filterMap_cons_some hc]
    simp only[decide_eq_true (show (((R[x]).1+(R[x]).2:Nat):Int)-((max cc (R[x]).1:Nat):Int)≥(w:Int) by omega),cond_true,List.head?_cons]
   ·have hc:KJ cc w R[x]=none:=by unfold KJ; rw[if_neg q]
    rw[List.filterMap_cons_none hc]
    simp only[decide_eq_false (show ¬ (((R[x]).1+(R[x]).2:Nat):Int)-((max cc (R[x]).1:Nat):Int)≥(w:Int) by omega),cond_false]
def Jj (p1:Bool) (w:Nat) (acc:Option (Nat × Nat)) (g:Nat × Nat):Option (Nat × Nat):=
 if g.2<w then acc else match acc with
  | none=>some g
  | some b=>if p1=true∧g.2<b.2 then some g else acc
theorem Li (k:Nat) (h:Ug σ j rb m t a) {w:Nat} {R:List (Nat × Nat)} (hR:R.length≤5000) {s:En} (hs:Cj Af 2 σ s R.length (Bj R)):∀ (n x f:Nat) (bi:Int) (acc:Option (Nat × Nat)),x+n=R.length→n<f→((bi = -1∧acc=none) ∨ ∃ b:Nat,bi=(b:Int) ∧ ∃ hb:b<R.length,acc=some R[b]) →
  ∃ bi':Int,CU k f (DC rb) (w:Int) s.1 R.length s.2.2 bi (x:Int) σ=some (.exit 2,[.int .i64 bi'],σ)∧((bi' = -1∧(R.drop x).foldl (Jj (decide (a.p=1)) w) acc=none) ∨ ∃ b:Nat,bi'=(b:Int) ∧ ∃ hb:b<R.length,(R.drop x).foldl (Jj (decide (a.p=1)) w) acc=some R[b])
 | n,x,0,bi,acc,hx,hf,hi=>by omega
 | 0,x,f+1,bi,acc,hx,hf,hi=>by
   rw[Jb,GO,List.drop_of_length_le (by omega)]
   exact ⟨bi,by simp only[decide_eq_false (show ¬ (x:Int)<((R.length:Nat):Int) by omega),cond_false],hi⟩
 | n+1,x,f+1,bi,acc,hx,hf,hi=>by
   have hxl:x<R.length:=by omega
   obtain ⟨b,e0,l0,l1⟩:=TW hs hxl
   have eg:∀ y (hy:y<R.length),R.getD y (0,0)=R[y]:=fun y hy=>by rw[List.getD_eq_getElem?_getD,List.getElem?_eq_getElem hy]; rfl
   rw[eg x hxl] at l0 l1
   have qx:(0≤(x:Int)∧(x:Int)<((R.length:Nat):Int))=True:=eq_true (by omega)
   have w1:Ad ((x:Int)+1)=((x+1:Nat):Int):=Ac (by unfold AN; omega)
   have hdr:R.drop x=R[x]::R.drop (x+1):=List.drop_eq_getElem_cons hxl
   rw[Jb,GO,hdr,List.foldl_cons]
   simp only[decide_eq_true (show (x:Int)<((R.length:Nat):Int) by omega),cond_true,qx,if_true,e0,Option.bind_some,Int.toNat_natCast,Nat.zero_add,Nat.add_zero,l1,w1,h.al.l2]
   by_cases q:(R[x]).2<w
   ·obtain ⟨bi',e1,r1⟩:=Li k h (w:=w) hR hs n (x+1) f bi acc (by omega) (by omega) hi
    rw[e0] at e1
    refine ⟨bi', ?_, ?_⟩
    ·simp only[decide_eq_true (show (((R[x]).2:Nat):Int)<(w:Int) by omega),cond_true,e1]
    ·unfold Jj; rw[if_pos q]; exact r1
   ·simp only[decide_eq_false (show ¬ (((R[x]).2:Nat):Int)<(w:Int) by omega),cond_false]
    rcases hi with ⟨rfl,rfl⟩ | ⟨b',rfl,hb',rfl⟩
    ·obtain ⟨bi',e1,r1⟩:=Li k h (w:=w) hR hs n (x+1) f (x:Int) (some R[x]) (by omega) (by omega) (.inr ⟨x,rfl,hxl,rfl⟩)
     rw[e0] at e1
     refine ⟨bi', ?_, ?_⟩
     ·simp only[decide_eq_true (show (-1:Int)<0 by decide),cond_true,Option.bind_some,if_true,Ds,e1]
     ·rw[show Jj (decide (a.p=1)) w none R[x]=some R[x] from by unfold Jj; rw[if_neg q]]; exact r1
    ·obtain ⟨_,e0',_,l1'⟩:=TW hs hb'
     rw[e0] at e0'; cases e0'
     rw[eg b' hb'] at l1'
     have qb:(0≤(b':Int)∧(b':Int)<((R.length:Nat):Int))=True:=eq_true (by omega)
     simp only[decide_eq_false (show ¬ (b':Int)<0 by omega),cond_false,qb,if_true,l1',Option.bind_some,Int.toNat_natCast,Nat.zero_add]
     by_cases q2:a.p=1
     ·simp only[show (a.p == 1)=true from by simpa using q2,cond_true,Option.bind_some]
      by_cases q3:(R[x]).2<(R[b']).2
      ·obtain ⟨bi',e1,r1⟩:=Li k h (w:=w) hR hs n (x+1) f (x:Int) (some R[x]) (by omega) (by omega) (.inr ⟨x,rfl,hxl,rfl⟩)
       rw[e0] at e1
       refine ⟨bi', ?_, ?_⟩
       ·simp only[decide_eq_true (show (((R[x]).2:Nat):Int)<(((R[b']).2:Nat):Int) by omega),cond_true,Option.bind_some,if_true,Ds,e1]
       ·rw[show Jj (decide (a.p=1)) w (some R[b']) R[x]=some R[x] from by unfold Jj; rw[if_neg q,decide_eq_true q2]; exact if_pos ⟨rfl,q3⟩]; exact r1
      ·obtain ⟨bi',e1,r1⟩:=Li k h (w:=w) hR hs n (x+1) f (b':Int) (some R[b']) (by omega) (by omega) (.inr ⟨b',rfl,hb',rfl⟩)
       rw[e0] at e1
       refine ⟨bi', ?_, ?_⟩
       ·simp only[decide_eq_false (show ¬ (((R[x]).2:Nat):Int)<(((R[b']).2:Nat):Int) by omega),cond_false,Option.bind_some,if_true,Ds,e1]
       ·rw[show Jj (decide (a.p=1)) w (some R[b']) R[x]=some R[b'] from by unfold Jj; rw[if_neg q]; exact if_neg (fun hh=>q3 hh.2)]; exact r1
     ·simp only[show (a.p == 1)=false from by simpa using q2,cond_false,Option.bind_some]
      obtain ⟨bi',e1,r1⟩:=Li k h (w:=w) hR hs n (x+1) f (b':Int) (some R[b']) (by omega) (by omega) (.inr ⟨b',rfl,hb',rfl⟩)
      rw[e0] at e1
      refine ⟨bi', ?_, ?_⟩
      ·simp only[cond_false,Option.bind_some,if_true,Ds,e1]
      ·rw[show Jj (decide (a.p=1)) w (some R[b']) R[x]=some R[b'] from by unfold Jj; rw[if_neg q,decide_eq_false q2]; exact if_neg (fun hh=>by cases hh.1)]; exact r1
theorem qD (w:Nat) (hw:1≤w) (g:Nat × Nat):KJ 0 w g=if g.2<w then none else some g:=by
 unfold KJ
 obtain ⟨x,y⟩:=g
 by_cases q:y<w
 ·rw[if_pos q,if_neg (by dsimp only; omega)]
 ·rw[if_neg q,if_pos (by dsimp only; omega)]
  dsimp only
  congr 2 <;> omega
theorem Xb (w:Nat) (hw:1≤w):∀ (l:List (Nat × Nat)) (acc:Option (Nat × Nat)),l.foldl (Jj false w) acc=acc.or (l.filterMap (KJ 0 w)).head?
 | [],acc=>by cases acc <;> rfl
 | g::l,acc=>by
   rw[List.foldl_cons,Xb w hw l]
   by_cases q:g.2<w
   ·rw[List.filterMap_cons_none (by rw[qD w hw,if_pos q]),show Jj false w acc g=acc from by unfold Jj; rw[if_pos q]]
   ·rw[List.filterMap_cons_some (by rw[qD w hw,if_neg q])]
    cases acc with
    | none=>rw[show Jj false w none g=some g from by unfold Jj; rw[if_neg q]]; rfl
    | some b=>rw[show Jj false w (some b) g=some b from by unfold Jj; rw[if_neg q]; exact if_neg (fun hh=>by cases hh.1)]; rfl
theorem ee (w:Nat) (hw:1≤w):∀ (l:List (Nat × Nat)) (acc:Option (Nat × Nat)),l.foldl (Jj true w) acc=(match acc with | none=>LS (l.filterMap (KJ 0 w)) | some b=>match LS (l.filterMap (KJ 0 w)) with | none=>some b | some h=>if h.2<b.2 then some h else some b)
 | [],acc=>by cases acc <;> rfl
 | g::l,acc=>by
   rw[List.foldl_cons,ee w hw l]
   by_cases q:g.2<w
   ·rw[List.filterMap_cons_none (by rw[qD w hw,if_pos q]),show Jj true w acc g=acc from by unfold Jj; rw[if_pos q]]
   ·rw[List.filterMap_cons_some (by rw[qD w hw,if_neg q])]
    cases acc with
    | none=>
      rw[show Jj true w none g=some g from by unfold Jj; rw[if_neg q]]
      rfl
    | some b=>
      rw[show Jj true w (some b) g=if g.2<b.2 then some g else some b from by unfold Jj; rw[if_neg q]; simp]
      simp only[LS]
      cases LS (l.filterMap (KJ 0 w)) with
      | none=>by_cases q2:g.2<b.2 <;> simp[q2]
      | some h=>
        by_cases q2:g.2<b.2
        ·rw[if_pos q2]
         dsimp only
         by_cases q3:h.2<g.2
         ·rw[if_pos q3]; dsimp only; rw[if_pos (by omega)]
         ·rw[if_neg q3]; dsimp only; rw[if_pos q2]
        ·rw[if_neg q2]
         dsimp only
         by_cases q3:h.2<g.2
         ·rw[if_pos q3]
         ·rw[if_neg q3]; dsimp only; rw[if_neg q2,if_neg (by omega)]
def Wg (m:HM) (a:AS) (w:Nat):Option (Nat × Nat):=
 if a.p=2 then (Cr m a.s a.c.toNat w++Cr m a.s 0 w).head?
 else if a.p=1 then LS (Cr m a.s 0 w) else (Cr m a.s 0 w).head?
theorem mX (k:Nat) (hk:8000≤k) (h:Ug σ j rb m t a) (ho:a.ok) {w:Nat} (hw:1≤w∧w≤1000):∃ τ,DP (k+6) (DC rb) (w:Int) σ=some (.tuple #[.int .i64 (match Wg m a w with | some g=>(g.1:Int) | none=>0),.bool (Wg m a w).isSome],σ++τ):=by
 have hc0:=ho.c0
 have hnt:=h.g.nt
 obtain ⟨cc,hcc⟩:∃ cc:Nat,a.c=(cc:Int):=⟨a.c.toNat,by omega⟩
 obtain ⟨τ,s,e1,h1⟩:=pQ k (by omega) h
 have hR2:=h.app τ
 have hRl:(EV m (Br m a.s m.bls.length)).length≤64*33:=by
  have hb2:=KH m a.s m.bls.length
  have aux:∀ L:List Nat,(L.flatMap fun b:Nat=>Ha m (b:Int)).length≤L.length*33:=by
   intro L
   induction L with
   | nil=>simp
   | cons b L ih=>
     have:=Qn m (b:Int)
     rw[List.flatMap_cons,List.length_append,List.length_cons]; omega
  have:=aux (Br m a.s m.bls.length)
  unfold EV; omega
 have hRb:∀ g ∈ EV m (Br m a.s m.bls.length),g.1+g.2≤10000:=fun g hg=>by
  unfold EV at hg
  obtain ⟨b,_,hb⟩:=List.mem_flatMap.1 hg
  exact XJ hnt _ g hb
 have hgf:∀ f,Cr m a.s f w=(EV m (Br m a.s m.bls.length)).filterMap (KJ f w):=fun f=>rfl
 unfold Wg
 simp only[hgf]
 generalize EV m (Br m a.s m.bls.length)=R at *
 have e2:=XB (k+5) hR2 hcc (by omega) hw (by omega) hRb h1 R.length 0 (k+5) (by omega) (by omega)
 obtain ⟨bi,e3,r3⟩:=Li (k+5) hR2 (w:=w) (by omega) h1 R.length 0 (k+5) (-1) none (by omega) (by omega) (.inl ⟨rfl,rfl⟩)
 rw[List.drop_zero] at e2 r3
 rw[show ((0:Nat):Int)=0 from rfl] at e2 e3
 refine ⟨τ, ?_⟩
 rw[Qh,LR]
 simp only[e1,Option.bind_some,Hs,h1.len,Nat.zero_add,hR2.al.l2,e2,e3,show a.c.toNat=cc from by omega]
 have fin:∀ (G:Option (Nat × Nat)),R.foldl (Jj (decide (a.p=1)) w) none=G→(if Bm.exit 2=Bm.exit 2 then (Te [Value.int .i64 bi] fun n30=>bif decide (n30<(0:Int)) then (some (Value.tuple #[.int .i64 (0:Int),.bool false],σ++τ)) else (if 0≤n30∧n30<(R.length:Nat) then s.1.bind fun a31=>(Ai .i64 (σ++τ) a31.block (a31.off+n30.toNat*2+0)).bind fun n32=>some (.tuple #[.int .i64 n32,.bool true],σ++τ) else none)) else none)=some (.tuple #[.int .i64 (match G with | some g=>(g.1:Int) | none=>0),.bool G.isSome],σ++τ):=by
  intro G hG
  rw[if_pos rfl,Ds]
  rcases r3 with ⟨rfl,r3⟩ | ⟨b,rfl,hb,r3⟩
  ·rw[hG] at r3; subst r3
   rw[decide_eq_true (show (-1:Int)<0 by decide)]; rfl
  ·rw[hG] at r3; subst r3
   obtain ⟨q,e0,l0,_⟩:=TW h1 hb
   have eg:R.getD b (0,0)=R[b]:=by rw[List.getD_eq_getElem?_getD,List.getElem?_eq_getElem hb]; rfl
   rw[eg] at l0
   rw[decide_eq_false (show ¬ (b:Int)<0 by omega),cond_false,if_pos (by omega),e0]
   simp only[Option.bind_some,Int.toNat_natCast,Nat.zero_add,Nat.add_zero,l0,Option.isSome_some]
 have p0:=ho.p0
 by_cases q2:a.p=2
 ·have hf:R.foldl (Jj (decide (a.p=1)) w) none=(R.filterMap (KJ 0 w)).head?:=by
   rw[decide_eq_false (by omega),Xb w hw.1]; rfl
  rw[if_pos q2]
  simp only[show (a.p == 2)=true from by simpa using q2,cond_true]
  cases hc:(R.filterMap (KJ cc w)).head? with
  | some g=>
    have:(R.filterMap (KJ cc w)++R.filterMap (KJ 0 w)).head?=some g:=by rw[List.head?_append,hc]; rfl
    rw[this]
    simp only[show (Bm.ret=Bm.exit 0)=False from by simp,if_false,if_true,Yq,Option.bind_some,show (Bm.ret=Bm.normal)=False from by simp,Option.isSome_some]
  | none=>
    have:(R.filterMap (KJ cc w)++R.filterMap (KJ 0 w)).head?=(R.filterMap (KJ 0 w)).head?:=by rw[List.head?_append,hc]; rfl
    rw[this]
    simp only[if_true,Option.bind_some,e3]
    have:=fin _ hf
    simp only[if_true] at this
    exact this
 ·rw[if_neg q2]
  simp only[show (a.p == 2)=false from by simpa using q2,cond_false,Option.bind_some,if_true,e3]
  by_cases q1:a.p=1
  ·rw[if_pos q1]
   have:=fin (LS (R.filterMap (KJ 0 w))) (by rw[decide_eq_true q1,ee w hw.1])
   simp only[if_true] at this
   exact this
  ·rw[if_neg q1]
   have:=fin (R.filterMap (KJ 0 w)).head? (by rw[decide_eq_false q1,Xb w hw.1]; rfl)
   simp only[if_true] at this
   exact this
end Go.Proofs.YtlaplcglpnlieaaGreat
end
