/- The policy lines; Alloc of any policy.; The document's allocator: Free, place, bump, over.; The document's allocator: bump, over; gaps, choose. -/
import Derived.Test.YtlaplcglpnlieaaGreatP20
import Derived.Test.YtlaplcglpnlieaaGreatP18
set_option linter.unusedVariables false
set_option linter.unusedSimpArgs false
set_option linter.unusedSectionVars false
section
namespace Go.Proofs.YtlaplcglpnlieaaGreat
open Go Go.AX
noncomputable local instance vA:AF:=Au
local instance uu:Kn:=⟨true⟩
variable {σ:Aa} {i:Cs} {m:HM} {ab:Nat} {a:AS}
theorem WJ {ls:List Bool}:∀ {f x:Nat} {g:Nat × Nat},g ∈ Wb ls f x→x≤g.1∧g.1<g.2∧g.2≤ls.length
 | 0,x,g,h=>by simp[Wb] at h
 | f+1,x,g,h=>by
   unfold Wb at h
   split at h
   ·rename_i hx
    rcases List.mem_append.1 h with h | h
    ·split at h
     ·rename_i q
      simp at h; subst h
      exact ⟨Nat.le_refl _,q,Y7 ls 8 x (by omega)⟩
     ·simp at h
    ·have:=WJ h
     exact ⟨by omega,this.2⟩
   ·simp at h
theorem aZ {lim:Int}:∀ {L:List Nat} {b x n:Nat},Nz m lim L=some (b,x,n)→b ∈ L∧(x,n) ∈ Wb (Er m (b:Int)) 9 0∧64*(b:Int)+8*(x:Int)≥lim
 | [],b,x,n,h=>by cases h
 | c::L,b,x,n,h=>by
   unfold Nz at h
   cases hb:Su (Er m (c:Int)) c lim 9 0 with
   | none=>
     rw[hb] at h
     have:=aZ h
     exact ⟨List.mem_cons_of_mem _ this.1,this.2⟩
   | some g=>
     rw[hb] at h
     cases h
     unfold Su at hb
     have h1:=List.mem_of_find?_eq_some hb
     have h2:=List.find?_some hb
     exact ⟨List.mem_cons_self,h1,by simpa using h2⟩
theorem YY (hl:m.bls.length≤64):0≤(JZ m a).1∧(JZ m a).1≤9000∧0≤(JZ m a).2.1∧(JZ m a).2.1≤9000:=by
 unfold JZ
 split
 ·rename_i g hg
  obtain ⟨b,x,n⟩:=g
  obtain ⟨h1,h2,_⟩:=aZ hg
  have h3:=(OW.1 h1).1
  have h4:=WJ h2
  have h5:=Q2 m (b:Int)
  dsimp only at *
  omega
 ·unfold Wn
  split
  ·rename_i b hb
   have:=Hg hb
   dsimp only; omega
  ·dsimp only; omega
def Gs (m:HM) (a:AS) (w:Int):PR:=
 if a.l-a.c≥w then ((a.c,true),m,a.put false (a.c+w) a.l)
 else if w>8 then CA m a true w
 else if (JZ m a).2.2=true then (((JZ m a).1,true),Lf m a,a.put false ((JZ m a).1+w) (JZ m a).2.1)
 else ((0,false),Lf m a,a)
theorem bq (k:Nat) (hk:5000≤k) (h:Ah σ i m) (hA:Cj σ ab i a) (hab:ab ∉ i.l) (ho:a.ok) (hI:Inv m) (hI2:Inv2 m) (h0:B0 m) {w:Int} (hw:0≤w∧w≤1000):
  cD (CW (k+12) (D8 ab) w σ) σ i ab (Gs m a w):=by
 have hnt:=h.nt
 have h1:Ah (σ++[.cells [] F5 true]) i m:=h.app _
 have A1:Cj (σ++[.cells [] F5 true]) ab i a:=hA.app _
 have K1:Co i ab σ (σ++[.cells [] F5 true]):=Co.app _ _
 have e1:DI (k+11) (some ⟨ab,3,none⟩) w (σ++[.cells [] F5 true])=some (.bool (decide (a.l-a.c≥w)),σ++[.cells [] F5 true]):=oo (k+10) A1 ho false w
 have tk:∀ {μ:Aa} {a':AS},Cj μ ab i a'→a'.ok→De (k+11) (some ⟨ab,3,none⟩) w μ=some (.int .i64 a'.c,μ.set ab (.cells ((a'.put false (a'.c+w) a'.l).row i.hb) AU true)):=fun hA ho=>gg (k+10) hA ho false hw
 rw[Nn,Lj]
 simp only[Ap,Option.bind_some,Nat.zero_add,e1,As]
 unfold Gs
 by_cases q:a.l-a.c≥w
 ·rw[if_pos q]
  simp only[decide_eq_true q,cond_true,Option.bind_some,if_true,tk A1 ho,Am]
  exact ⟨_,rfl,h1.RH hab _,A1.put _,K1.trans (Co.set _ _)⟩
 rw[if_neg q]
 simp only[decide_eq_false q,cond_false]
 by_cases q2:w>8
 ·rw[if_pos q2]
  obtain ⟨σ2,e2,g2,a2,k2⟩:=df (k+1) (by omega) h1 A1 hab ho true hw
  have e2':B3 (k+11) (D8 ab) (some ⟨ab,5,none⟩) w (σ++[.cells [] F5 true])=_:=e2
  simp only[decide_eq_true q2,cond_true,e2',Option.bind_some,Tp,show (Bm.ret=Bm.normal)=False from by simp,if_false,if_true,XL]
  exact ⟨σ2,rfl,g2,a2,K1.trans k2⟩
 rw[if_neg q2]
 obtain ⟨σ2,e2,g2,k2⟩:=pZ (k+1) (by omega) h1 A1 hab ho hI hI2 h0
 have e2':CF (k+11) (D8 ab) (σ++[.cells [] F5 true])=_:=e2
 have A2:=A1.W7 k2 hab
 have K2:=K1.trans (Co.of k2)
 have hr:=YY (m:=m) (a:=a) hnt
 simp only[decide_eq_false q2,cond_false,e2',Option.bind_some,Zq,List.length_cons,List.length_nil,List.head?_cons,List.tail_cons,ZD,As,q9,Nat.zero_add,Nat.reduceAdd,if_true]
 generalize JZ m a=v at *
 cases hv:v.2.2 with
 | false=>
   simp only[Bool.not_false,cond_true,Option.bind_some,show (Bm.ret=Bm.normal)=False from by simp,if_false,if_true,XL,Bool.false_eq_true]
   exact ⟨_,rfl,g2.app _,A2.app _,K2.trans (Co.app _ _)⟩
 | true=>
   obtain ⟨l0,l1⟩:=lu σ2 Eu v.1 v.2.1
   have A3:=A2.app [.cells [.int .i64 v.1,.int .i64 v.2.1] Eu true]
   have st3:=A3.td false v.1 v.2.1
   rw[show np false=3 from rfl] at st3
   have A4:=A3.put (a.put false v.1 v.2.1)
   have ho4:(a.put false v.1 v.2.1).ok:=ho.put false (by omega) (by omega)
   simp only[Bool.not_true,cond_false,l0,l1,Option.bind_some,st3,if_true,tk A4 ho4,Am]
   exact ⟨_,rfl,((g2.app _).RH hab _).RH hab _,A4.put _,((K2.trans (Co.app _ _)).trans (Co.set _ _)).trans (Co.set _ _)⟩
def Q6 (m:HM) (a:AS) (w:Int):PR:=
 if w>32 then JN m a w
 else if a.p=0 then B1 m a (Bx m a.s 0 w.toNat)
 else if a.p=1 then g7 m a w.toNat
 else if a.p=2 then P8 m a w.toNat
 else if a.p=3 then CA m a false w
 else Gs m a w
def Uq (m:HM) (a:AS) (r d c:Int):(Int × Int) × HM × AS:=Bj m a r d c (Q6 m a (words r d c))
theorem YD (h:Inv m) (h2:Inv2 m) (hl:m.bls.length≤64) (ho:a.ok) {l:List (Nat × Nat)} (hg:∀ g ∈ l,g.1≤10000):gu m a (B1 m a l):=by
 have hadr:=cj (a:=a) hl hg
 unfold B1 at *
 split
 ·exact ⟨h,h2,rfl,rfl,hadr,rfl,rfl,ho,fun hh=>by cases hh⟩
 ·split
  ·rename_i b hb
   have:=Hg hb
   obtain ⟨k1,k2,k3,k4⟩:=an (b:=b) h h2 a.s
   exact ⟨k1,k2,k3,k4,by dsimp only; omega,rfl,rfl,ho,fun hh=>by cases hh⟩
  ·exact fU h h2 ho
theorem pN (h:Inv m) (h2:Inv2 m) (s:Int):Inv (Sd m s)∧Inv2 (Sd m s)∧(Sd m s).births=m.births∧(Sd m s).bls.length=m.bls.length:=by
 unfold Sd
 split
 ·exact an h h2 s
 ·exact ⟨h,h2,rfl,rfl⟩
theorem ou (h:Inv m) (h2:Inv2 m):Inv (Lf m a)∧Inv2 (Lf m a)∧(Lf m a).births=m.births∧(Lf m a).bls.length=m.bls.length:=by
 unfold Lf
 split
 ·exact ⟨h,h2,rfl,rfl⟩
 ·exact pN h h2 _
theorem ov (h:(JZ m a).2.2=false):Lf m a=m:=by
 unfold JZ Lf at *
 cases q:Nz m a.l (Bg m a.s m.bls.length) with
 | some g=>rfl
 | none=>
   rw[q] at h
   unfold Wn Sd at *
   cases q2:Hs m with
   | some b=>rw[q2] at h; cases h
   | none=>rfl
theorem Yd:∀ {l:List (Nat × Nat)} {e:Nat × Nat},Kv l=some e→e ∈ l
 | [],e,h=>by cases h
 | g::l,e,h=>by
   unfold Kv at h
   cases hb:Kv l with
   | none=>rw[hb] at h; cases h; exact List.mem_cons_self
   | some x=>
     rw[hb] at h
     dsimp only at h
     split at h
     ·cases h; exact List.mem_cons_of_mem _ (Yd hb)
     ·cases h; exact List.mem_cons_self
theorem dv (hl:m.bls.length≤64) {s:Int} {f w:Nat} (hw:1≤w):∀ g ∈ Bx m s f w,g.1+w≤4096:=by
 intro g hg
 unfold Bx at hg
 obtain ⟨g0,h0,hc⟩:=List.mem_filterMap.1 hg
 unfold Di at h0
 obtain ⟨b,_,hb⟩:=List.mem_flatMap.1 h0
 have:=dx hl _ g0 hb
 unfold J1 at hc
 split at hc
 ·cases hc; dsimp only; omega
 ·cases hc
theorem kD (hl:m.bls.length≤64) {l:List (Nat × Nat)} {w:Nat} (hw:w≤1000) (hg:∀ g ∈ l,g.1+w≤4096):0≤(B1 m a l).1.1∧(B1 m a l).1.1+w≤6000:=by
 unfold B1
 split
 ·have:=hg _ (List.mem_cons_self); dsimp only; omega
 ·split
  ·rename_i b hb
   have:=Hg hb
   dsimp only; omega
  ·dsimp only; omega
theorem kr (h:Inv m) (h2:Inv2 m) (hl:m.bls.length≤64) (ho:a.ok) {w:Int} (hw:1≤w∧w≤1000):gu m a (Q6 m a w):=by
 have hc:=ho.c0
 have hll:=ho.l0
 have hg0:=dv (m:=m) hl (s:=a.s) (f:=0) (w:=w.toNat) (by omega)
 have hgc:=dv (m:=m) hl (s:=a.s) (f:=a.c.toNat) (w:=w.toNat) (by omega)
 have nx:gu m a (P8 m a w.toNat):=by
  have hga:∀ g ∈ Bx m a.s a.c.toNat w.toNat++Bx m a.s 0 w.toNat,g.1+w.toNat≤4096:=fun g hg=>by
   rcases List.mem_append.1 hg with hg | hg
   ·exact hgc g hg
   ·exact hg0 g hg
  have hs:=YD (a:=a) h h2 hl ho (l:=Bx m a.s a.c.toNat w.toNat++Bx m a.s 0 w.toNat) (fun g hg=>by have:=hga g hg; omega)
  have hadr:=kD (a:=a) hl (by omega) hga
  unfold P8
  split
  ·exact ⟨hs.inv,hs.inv2,hs.brt,hs.len,hs.adr,ir _ _ _ _,iq _ _ _ _,ho.put false (by omega) hll,fun hh=>by rename_i q; exact absurd (q.symm.trans hh) (by decide)⟩
  ·exact hs
 unfold Q6
 split
 ·exact m8 h h2 hl ho w
 split
 ·exact YD h h2 hl ho fun g hg=>by have:=hg0 g hg; omega
 split
 ·exact YD h h2 hl ho fun g hg=>by
   cases hb:Kv (Bx m a.s 0 w.toNat) with
   | none=>rw[hb] at hg; simp at hg
   | some e=>
     rw[hb] at hg; simp at hg; subst hg
     have:=hg0 g (Yd hb); omega
 split
 ·exact nx
 split
 ·exact gE h h2 hl ho false (by omega)
 ·unfold Gs
  split
  ·exact ⟨h,h2,rfl,rfl,by dsimp only; omega,ir _ _ _ _,iq _ _ _ _,ho.put false (by omega) (by omega),fun hh=>by cases hh⟩
  ·split
   ·exact gE h h2 hl ho true (by omega)
   ·obtain ⟨k1,k2,k3,k4⟩:=ou (a:=a) h h2
    have hr:=YY (m:=m) (a:=a) hl
    split
    ·exact ⟨k1,k2,k3,k4,by dsimp only; omega,ir _ _ _ _,iq _ _ _ _,ho.put false (by omega) (by omega),fun hh=>by cases hh⟩
    ·rename_i q
     exact ⟨k1,k2,k3,k4,by dsimp only; omega,rfl,rfl,ho,fun _=>by rw[ov (by simpa using q)]⟩
theorem gF (k:Nat) (p:Option Addr) (n:Int) (σ:Aa):Cl k (.func (.method "dustcart/alloc.place") #[WE 0] #[]) [.pointer p,.int .i64 n] σ=CV k p n σ:=by
 simp only[Cl,CV,Ab]; kernel_rfl
theorem j7 (k:Nat) (p:Option Addr) (n:Int) (σ:Aa):Cl k (.func (.method "dustcart/alloc.place") #[WE 1] #[]) [.pointer p,.int .i64 n] σ=Dv k p n σ:=by
 simp only[Cl,Dv,Ab]; kernel_rfl
theorem j9 (k:Nat) (p:Option Addr) (n:Int) (σ:Aa):Cl k (.func (.method "dustcart/alloc.place") #[WE 2] #[]) [.pointer p,.int .i64 n] σ=Dx k p n σ:=by
 simp only[Cl,Dx,Ab]; kernel_rfl
theorem gG (k:Nat) (p:Option Addr) (n:Int) (σ:Aa):Cl k (.func (.method "dustcart/alloc.place") #[WE 4] #[]) [.pointer p,.int .i64 n] σ=CW k p n σ:=by
 simp only[Cl,CW,Ab]; kernel_rfl
theorem cX (k:Nat) (hk:50000≤k) (h:Ah σ i m) (hA:Cj σ ab i a) (hab:ab ∉ i.l) (ho:a.ok) (hI:Inv m) (hI2:Inv2 m) (h0:B0 m) (hb:m.births<1000000) (r d c:Int):
  qK (AN (k+13) (D8 ab) r d c σ) σ i ab (Uq m a r d c):=by
 have pr:valid r d c=true→gu m a (Q6 m a (words r d c)):=fun hv=>by
  have:=G1 hv
  exact kr hI hI2 h.nt ho (by omega)
 refine nq k (by omega) h hA hab ho _ (fun hv σ0 g0 A0=>?_) (fun hv=>(pr hv).inv) (fun hv=>by rw[(pr hv).brt]; exact hb) (fun hv=>(pr hv).adr) (fun hv=>(pr hv).s)
 have hw:=G1 hv
 obtain ⟨w,hww⟩:∃ w:Nat,words r d c=(w:Int):=⟨(words r d c).toNat,by omega⟩
 have p0:=ho.p0
 rw[hww]
 unfold Q6 tc
 rw[Int.toNat_natCast]
 by_cases q:(w:Int)>32
 ·rw[if_pos q,if_pos q,MQ]
  exact o8 (k+3) (by omega) g0 A0 hab (by omega)
 rw[if_neg q,if_neg q]
 by_cases q0:a.p=0
 ·rw[if_pos q0,q0,show (0:Int).toNat=0 from rfl,gF]
  exact aM k (by omega) g0 A0 hab ho hI h0 (by omega)
 rw[if_neg q0]
 by_cases q1:a.p=1
 ·rw[if_pos q1,q1,show (1:Int).toNat=1 from rfl,j7]
  exact cI k hk g0 A0 hab ho hI hI2 h0 (by omega)
 rw[if_neg q1]
 by_cases q2:a.p=2
 ·rw[if_pos q2,q2,show (2:Int).toNat=2 from rfl,j9]
  exact cP k (by omega) g0 A0 hab ho hI h0 (by omega)
 rw[if_neg q2]
 by_cases q3:a.p=3
 ·rw[if_pos q3,q3,show (3:Int).toNat=3 from rfl,j8]
  exact cJ (k+1) (by omega) g0 A0 hab ho (by omega)
 rw[if_neg q3,show a.p.toNat=4 from by omega,gG]
 exact bq k (by omega) g0 A0 hab ho hI hI2 h0 (by omega)
end Go.Proofs.YtlaplcglpnlieaaGreat
end
section
namespace Go.Proofs.YtlaplcglpnlieaaGreat
open Go Go.AX
noncomputable local instance vB:AF:=Au
local instance uv:Kn:=⟨true⟩
variable {σ:Aa} {m:HM} {t:RM} {j:RI} {rb:Nat} {a:AS}
structure PD (m:HM):Prop where
 inv:Inv m
 inv2:Inv2 m
 sh:Sh m
 fz:FZ m
 b0:B0 m
 nb:2≤m.bls.length
 nt:m.bls.length≤64
theorem PD.YU (h:PD m) (b c x y x' y':Int) (hx:x≠0) (hx':x'≠0∨c=1):PD (Bp m b c x y x' y').2:=by
 have k:=M7 h.inv h.inv2 b c x y x' y'
 exact ⟨k.inv,k.inv2,mc h.sh _ _ _ _ _ _,Yg h.fz _ _ _ _ _ _ hx hx',(Yf m b c x y x' y').trans h.b0,by rw[k.len]; exact h.nb,by rw[k.len]; exact h.nt⟩
theorem bI (m:HM) (x r d c:Int):(Br m x r d c).2.2.bls=m.bls:=by
 unfold Br; split
 ·split <;> rfl
 ·rfl
theorem mP (h:Sh m) (x r d c:Int):Sh (Br m x r d c).2.2:=by
 unfold Br; split
 ·split
  ·obtain ⟨p,q,u⟩:=h
   exact ⟨by simp only[Dj,List.length_set]; exact p,by simp only[Dj]; rw[MO]; exact q,u⟩
  ·exact h
 ·exact h
theorem PD.place (h:PD m) (x r d c:Int):PD (Br m x r d c).2.2:=by
 have k:=Rn h.inv h.inv2 h.sh x r d c
 have e:=bI m x r d c
 exact ⟨k.inv,k.inv2,mP h.sh _ _ _ _,R7 h.fz e,by unfold B0; rw[e]; exact h.b0,by rw[e]; exact h.nb,by rw[e]; exact h.nt⟩
theorem Si (h:PD m) (b:Nat) (s:Int):PD (CN m b s):=h.YU _ _ _ _ _ _ (by decide) (.inr rfl)
theorem nL (h:PD m) (s:Int):PD (Sd m s):=by
 unfold Sd; split
 ·exact Si h _ _
 ·exact h
theorem TA (h:PD m) (l:List (Nat × Nat)):PD (B1 m a l).2.1:=by
 unfold B1; split
 ·exact h
 ·split
  ·exact Si h _ _
  ·exact h
theorem de (h:PD m) (v:Bool) (w:Int):PD (CA m a v w).2.1:=by
 unfold CA; split
 ·exact h
 ·split
  ·exact Si h _ _
  ·exact h
theorem jW (h:PD m) (w:Int):PD (JN m a w).2.1:=by
 unfold JN; split
 ·exact h.YU _ _ _ _ _ _ (by decide) (.inl (by decide))
 ·exact h
theorem dC (h:PD m):PD (Lf m a):=by
 unfold Lf; split
 ·exact h
 ·exact nL h _
theorem kd (h:PD m) (w:Int):PD (Gs m a w).2.1:=by
 unfold Gs; split
 ·exact h
 ·split
  ·exact de h _ _
  ·split
   ·exact dC h
   ·exact dC h
theorem lB (h:PD m) (w:Int):PD (Q6 m a w).2.1:=by
 unfold Q6; split
 ·exact jW h w
 split
 ·exact TA h _
 split
 ·exact TA h _
 split
 ·unfold P8; split
  ·exact TA h _
  ·exact TA h _
 split
 ·exact de h _ _
 ·exact kd h w
def Kj (σ:Aa) (rb:Nat) (j:RI) (a:AS):Prop:=σ[rb]?=some (.cells (a.row j.hb) Cz true)
theorem Kj.XO (h:Kj σ rb j a):Js σ rb 0=some (Ci j):=by unfold Kj AS.row at h; simp[Js,Gy,h,XP]
theorem Kj.l1 (h:Kj σ rb j a):Ai .i64 σ rb 1=some a.s:=by unfold Kj AS.row at h; simp[Ai,Gy,h,BA]
theorem Kj.l2 (h:Kj σ rb j a):Ai .i64 σ rb 2=some a.p:=by unfold Kj AS.row at h; simp[Ai,Gy,h,BA]
theorem Kj.l3 (h:Kj σ rb j a):Ai .i64 σ rb 3=some a.c:=by unfold Kj AS.row at h; simp[Ai,Gy,h,BA]
theorem Kj.l4 (h:Kj σ rb j a):Ai .i64 σ rb 4=some a.l:=by unfold Kj AS.row at h; simp[Ai,Gy,h,BA]
theorem Kj.l5 (h:Kj σ rb j a):Ai .i64 σ rb 5=some a.oc:=by unfold Kj AS.row at h; simp[Ai,Gy,h,BA]
theorem Kj.l6 (h:Kj σ rb j a):Ai .i64 σ rb 6=some a.ol:=by unfold Kj AS.row at h; simp[Ai,Gy,h,BA]
theorem Kj.CT {σ':Aa} {j':RI} (h:Kj σ rb j a) (hs:σ'[rb]?=σ[rb]?) (hj:j'.hb=j.hb):Kj σ' rb j' a:=by unfold Kj; rw[hs,hj]; exact h
theorem Kj.put (h:Kj σ rb j a) (a':AS):Kj (σ.set rb (.cells (a'.row j.hb) Cz true)) rb j a':=by
 unfold Kj; rw[List.getElem?_set_self (Ae h)]
theorem Kj.G0 (h:Kj σ rb j a) (o:Nat) (v:Value) (a':AS) (hv:(a.row j.hb).set o v=a'.row j.hb) (hl:o<7):AX.G0 σ rb o v=some (σ.set rb (.cells (a'.row j.hb) Cz true)):=by
 have h':=h
 unfold Kj at h'
 simp only[AX.G0,h']
 rw[if_pos (by simpa [AS.row] using hl),hv]
structure TD (σ:Aa) (j:RI) (rb:Nat) (m:HM) (t:RM) (a:AS):Prop where
 g:RG σ j m t
 P:NS m
 M:PD m
 al:Kj σ rb j a
 off:rb ∉ j.l
theorem TD.app (h:TD σ j rb m t a) (τ:Aa):TD (σ++τ) j rb m t a:=⟨h.g.app τ,h.P,h.M,h.al.CT (List.getElem?_append_left (Ae h.al)) rfl,h.off⟩
structure Em (j j':RI) (rb:Nat) (σ σ':Aa):Prop where
 len:σ.length≤σ'.length
 same:∀ q,q<σ.length→q ∉ j.l→q≠rb→σ'[q]?=σ[q]?
 new:∀ q,q ∈ j'.l→q ∈ j.l∨σ.length≤q
 hb:j'.hb=j.hb
theorem Em.of {j':RI} {σ':Aa} (h:GW j j' σ σ'):Em j j' rb σ σ':=⟨h.len,fun q h1 h2 _=>h.same q h1 h2,h.new,h.hb⟩
theorem Em.app (j:RI) (σ τ:Aa):Em j j rb σ (σ++τ):=.of (GW.app j σ τ)
theorem Em.refl (j:RI) (σ:Aa):Em j j rb σ σ:=.of (GW.refl j σ)
theorem Em.set (j:RI) (σ:Aa) (o:Bi):Em j j rb σ (σ.set rb o):=⟨by simp,fun q _ _ h=>List.getElem?_set_ne fun e=>h e.symm,fun _ h=>.inl h,rfl⟩
theorem Em.trans {x y z:Aa} {j j' j'':RI} (h:Em j j' rb x y) (g:Em j' j'' rb y z):Em j j'' rb x z:=by
 refine ⟨Nat.le_trans h.len g.len,fun q h1 h2 h3=>?_,fun q hq=>?_,g.hb.trans h.hb⟩
 ·refine (g.same q (Nat.lt_of_lt_of_le h1 h.len) (fun hm=>?_) h3).trans (h.same q h1 h2 h3)
  rcases h.new q hm with h4 | h4
  ·exact h2 h4
  ·omega
 ·rcases g.new q hq with h1 | h1
  ·exact h.new q h1
  ·exact .inr (Nat.le_trans h.len h1)
theorem TD.RH (h:TD σ j rb m t a) (a':AS):TD (σ.set rb (.cells (a'.row j.hb) Cz true)) j rb m t a':=
 ⟨h.g.CT (fun q hq=>List.getElem?_set_ne fun e=>h.off (by rw[e]; exact hq)) (by simp),h.P,h.M,h.al.put a',h.off⟩
def Rw (mm:Option (Value × Aa)) (σ:Aa) (j:RI) (rb:Nat) (v:Value) (m':HM) (a':AS):Prop:=
 ∃ σ' j' t',mm=some (v,σ')∧TD σ' j' rb m' t' a'∧Em j j' rb σ σ'
theorem TD.rB (h:TD σ j rb m t a) {mm:Option (Value × Aa)} {v:Value} {m':HM} (hg:Hp mm σ j v m') (hM:PD m'):Rw mm σ j rb v m' a:=by
 obtain ⟨σ',j',t',e,r,s,p,k⟩:=hg
 refine ⟨σ',j',t',e,⟨⟨r,s,hM.inv,hM.inv2,hM.sh.wl,hM.nb,hM.nt⟩,p,hM,h.al.CT (k.same rb (Ae h.al) h.off) k.hb,fun hm=>?_⟩,.of k⟩
 rcases k.new rb hm with h1 | h1
 ·exact h.off h1
 ·have:=Ae h.al; omega
theorem tm (x:Addr):Vi P Fz (.pointer (some x)) (.pointer none)=some false:=by kernel_rfl
theorem ee (k:Nat) (h:TD σ j rb m t a):CI (k+2) (D8 rb) σ=some (.bool true,σ):=by
 rw[QL,Nb]
 simp only[tm,Option.bind_some,Bool.not_false,cond_true,Nat.zero_add,Nat.add_zero,h.al.XO,Iw k h.g,As]
def cA (m:HM) (c:Nat):Nat→Nat→Option Nat
 | 0,_=>none
 | n+1,x=>if x+c≤m.bls.length then (if Im m.bls x c 0=none then some x else cA m c n (x+1)) else none
theorem gW {c:Nat}:∀ {n x b:Nat},cA m c n x=some b→x≤b∧b+c≤m.bls.length
 | 0,x,b,h=>by cases h
 | n+1,x,b,h=>by
   unfold cA at h
   split at h
   ·split at h
    ·cases h; exact ⟨Nat.le_refl _,by assumption⟩
    ·have:=gW h; omega
   ·cases h
theorem bp {c:Nat} {s:Int} (hs:0≤s∧s<8) (hc:1≤c):∀ (n x:Nat),1≤x→cC m c s n x=cA m c n x
 | 0,x,_=>rfl
 | n+1,x,hx=>by
   unfold cC cA
   by_cases q:x+c≤m.bls.length
   ·rw[if_pos q,if_pos q,bp hs hc n (x+1) (by omega)]
    have e:(1≤(x:Int)∧(x:Int)<(m.bls.length:Int)∧(1:Int)≤(c:Int)∧(c:Int)≤(m.bls.length:Int)-(x:Int)∧Ug s=true):=⟨by omega,by omega,by omega,by omega,by unfold Ug; simpa using hs⟩
    unfold Bp
    rw[if_pos e,Int.toNat_natCast,Int.toNat_natCast]
    by_cases q2:Im m.bls x c 0=none
    ·rw[if_pos q2,if_pos q2,if_pos rfl]
    ·rw[if_neg q2,if_neg q2,if_neg (by dsimp only; decide)]
   ·rw[if_neg q,if_neg q]
theorem Wv:∀ (n x:Nat),x+n=m.bls.length→Sp m n x=cA m 1 (n+1) x
 | 0,x,h=>by unfold Sp cA; rw[if_neg (by omega)]
 | n+1,x,h=>by
   rw[Sp,cA,if_pos (show x+1≤m.bls.length by omega),Wv n (x+1) (by omega)]
   by_cases q:(m.bls.getD x (0,0)).1=0∧(m.bls.getD x (0,0)).2=0
   ·rw[if_pos q,if_pos (show Im m.bls x 1 0=none by simp only[Im,Nat.add_zero,q,and_self,if_true])]
   ·rw[if_neg q,if_neg (show ¬ Im m.bls x 1 0=none by simp only[Im,Nat.add_zero,if_neg q]; simp)]
theorem Ww (h:1≤m.bls.length):Hs m=cA m 1 m.bls.length 1:=by
 unfold Hs
 rw[Wv _ _ (by omega)]
 congr 1; omega
theorem aT (k:Nat) (h:RG σ j m t) (hz:FZ m) {c x:Nat} (hx:x+c≤m.bls.length):∀ (n y f:Nat),y+n=c→n<f→Im m.bls x y 0=none →
  ∃ r:Nat,H5 (k+2) f (Ci j) (c:Int) (x:Int) (y:Int) σ=some (.exit 2,[.int .i64 (r:Int)],σ)∧(r=c↔Im m.bls x c 0=none)∧r≤c
 | n,y,0,hy,hf,hu=>by omega
 | 0,y,f+1,hy,hf,hu=>by
   rw[Qt,Pm]
   obtain rfl:y=c:=by omega
   exact ⟨y,by simp only[decide_eq_false (Int.lt_irrefl _),cond_false,Option.bind_some],⟨fun _=>hu,fun _=>rfl⟩,Nat.le_refl _⟩
 | n+1,y,f+1,hy,hf,hu=>by
   have hnt:=h.nt
   rw[Qt,Pm]
   have w1:Ac ((x:Int)+(y:Int))=((x+y:Nat):Int):=Ad (by unfold AW; omega)
   have w2:Ac ((y:Int)+1)=((y+1:Nat):Int):=Ad (by unfold AW; omega)
   have es:Ih m ((x+y:Nat):Int)=(m.bls.getD (x+y) (0,0)).1:=by
    unfold Ih; rw[if_pos (by omega),Int.toNat_natCast]
   simp only[decide_eq_true (show (y:Int)<(c:Int) by omega),cond_true,w1,S6 k h,es,Option.bind_some,Am]
   by_cases q:(m.bls.getD (x+y) (0,0)).1=0
   ·have hu':Im m.bls x (y+1) 0=none:=by
     rw[PT hz] at hu ⊢
     intro c' c1 c2
     by_cases q2:c'=y
     ·rw[q2]; exact q
     ·exact hu c' c1 (by omega)
    obtain ⟨r,e1,e2,e3⟩:=aT k h hz hx n (y+1) f (by omega) (by omega) hu'
    exact ⟨r,by simp only[show ((m.bls.getD (x+y) (0,0)).1 == 0)=true from by simpa using q,cond_true,w2,e1],e2,e3⟩
   ·refine ⟨y,by simp only[show ((m.bls.getD (x+y) (0,0)).1 == 0)=false from by simpa using q,cond_false],⟨fun hh=>by omega,fun hh=>?_⟩,by omega⟩
    rw[PT hz] at hh
    exact absurd (hh y (by omega) (by omega)) q
theorem aS (k:Nat) (hk:5000≤k) (h:RG σ j m t) (hz:FZ m) {c:Nat} (hc:c≤100):∀ (n x f:Nat),m.bls.length<x+n→x≤200→n<f →
  H0 (k+2) f (Ci j) (c:Int) (x:Int) σ=some (match cA m c n x with | some b=>(.ret,[.int .i64 (b:Int)],σ) | none=>(.exit 0,[],σ))
 | n,x,0,hx,hx2,hf=>by omega
 | n,x,f+1,hx,hx2,hf=>by
   have hnt:=h.nt
   have w1:Ac ((x:Int)+(c:Int))=((x+c:Nat):Int):=Ad (by unfold AW; omega)
   have w2:Ac ((x:Int)+1)=((x+1:Nat):Int):=Ad (by unfold AW; omega)
   have eb:Bs (k+2) (Ci j) σ=_:=Q7 k h
   rw[Wq,TE]
   simp only[eb,Option.bind_some,Am,w1]
   by_cases q:x+c≤m.bls.length
   ·obtain ⟨n,rfl⟩:∃ n',n=n'+1:=⟨n-1,by omega⟩
    obtain ⟨r,e1,e2,e3⟩:=aT k h hz q c 0 (k+2) (by omega) (by omega) rfl
    rw[show ((0:Nat):Int)=0 from rfl] at e1
    simp only[decide_eq_true (show ((x+c:Nat):Int)≤((m.bls.length:Nat):Int) by omega),cond_true,e1,Option.bind_some,if_true,D4,cA,if_pos q,w2]
    by_cases q2:Im m.bls x c 0=none
    ·rw[if_pos q2,show ((r:Int) == (c:Int))=true from by have:=e2.2 q2; simp[this]]; rfl
    ·rw[if_neg q2,show ((r:Int) == (c:Int))=false from by rw[beq_eq_false_iff_ne]; intro hh; exact q2 (e2.1 (by omega))]
     simp only[cond_false]
     exact aS k hk h hz hc n (x+1) f (by omega) (by omega) (by omega)
   ·have z:cA m c n x=none:=by
     cases n with
     | zero=>rfl
     | succ n=>rw[cA,if_neg q]
    simp only[decide_eq_false (show ¬ ((x+c:Nat):Int)≤((m.bls.length:Nat):Int) by omega),cond_false,z]
theorem ZB (k:Nat) (hk:5000≤k) (h:RG σ j m t) (hz:FZ m) {c:Nat} (hc:c≤100):E3 (k+3) (Ci j) (c:Int) σ=some (.int .i64 (match cA m c m.bls.length 1 with | some b=>(b:Int) | none=>0),σ):=by
 have hnt:=h.nt
 have e:=aS k hk h hz hc m.bls.length 1 (k+2) (by omega) (by omega) (by omega)
 rw[show ((1:Nat):Int)=1 from rfl] at e
 rw[Z3,Xe]
 simp only[e,Option.bind_some]
 cases cA m c m.bls.length 1 with
 | none=>simp only[if_true]
 | some b=>simp only[show (Bm.ret=Bm.exit 0)=False from by simp,if_false,if_true,D4]
def gp (m:HM) (s x:Int) (r d c:Int):(Int × Int) × HM:=
 if ¬ words r d c>32∧LM m (x.tdiv 64)≠s then ((0,6),m)
 else if (Br m x r d c).2.1=0 then ((x,0),(Br m x r d c).2.2) else ((0,6),(Br m x r d c).2.2)
theorem ph (m:HM) (b:Int):WN m b=LM m b:=rfl
theorem S7 (k:Nat) (hk:5000≤k) (h:TD σ j rb m t a) {x:Int} (hx:0≤x∧x≤100000) (bl:Nat) {r d c:Int} (hb:m.births<1000000) {m1:HM} (hm1:m1=if 0<bl then CN m bl a.s else m):
  Rw (Aw (k+6) (D8 rb) x (bl:Int) r d c σ) σ j rb (.tuple #[.int .i64 (gp m1 a.s x r d c).1.1,.int .i64 (gp m1 a.s x r d c).1.2]) (gp m1 a.s x r d c).2 a:=by
 have bx:∀ {μ:Aa} {q:Nat},μ[q]?=some (Bi.cells [Value.int .i64 r,.int .i64 d,.int .i64 c] Al true)→Ai .i64 μ q 0=some r∧Ai .i64 μ q 1=some d∧Ai .i64 μ q 2=some c:=by
  intro μ q hm; simp[Ai,Gy,hm,BA]
 have hlt:=Ae h.al
 have hns:σ.length ∉ j.l:=fun hm=>Nat.lt_irrefl _ (h.g.at_.lt _ hm)
 obtain ⟨μ0,hμ0⟩:∃ μ0,σ++[Bi.cells [Value.int .i64 r,.int .i64 d,.int .i64 c] Al true]=μ0:=⟨_,rfl⟩
 have h0:TD μ0 j rb m t a:=hμ0 ▸ h.app _
 have K0:Em j j rb σ μ0:=hμ0 ▸ Em.app j σ _
 have S0:μ0[σ.length]?=some (Bi.cells [Value.int .i64 r,.int .i64 d,.int .i64 c] Al true):=by rw[← hμ0]; simp
 obtain ⟨μ1,j1,t1,e1,h1,K1,S1⟩:∃ μ1 j1 t1,((bif decide ((bl:Int)>0) then ((CO (k+5) (Ci j) (bl:Int) a.s μ0).bind fun r7=>(BA .i64 r7.1).bind fun n8=>some (Bm.normal,[],r7.2)) else (some (Bm.normal,[],μ0)):Option Ay))=some (.normal,[],μ1)∧TD μ1 j1 rb m1 t1 a∧Em j j1 rb σ μ1∧μ1[σ.length]?=some (Bi.cells [Value.int .i64 r,.int .i64 d,.int .i64 c] Al true):=by
  by_cases q:0<bl
  ·rw[if_pos q] at hm1
   obtain ⟨μ1,j1,t1,e1,h1,K1⟩:=h0.rB (dV (k+3) h0.g h0.P h0.M.fz (bl:Int) a.s) (by rw[show (Bp m (bl:Int) 1 1 a.s 0 0).2=CN m bl a.s from rfl]; exact Si h.M _ _)
   refine ⟨μ1,j1,t1, ?_,by rw[hm1]; exact h1,K0.trans K1,by rw[K1.same _ (Ae S0) hns (by omega)]; exact S0⟩
   rw[decide_eq_true (show (bl:Int)>0 by omega)]
   simp only[cond_true,e1,Option.bind_some,Am]
  ·rw[if_neg q] at hm1
   exact ⟨μ0,j,t,by rw[decide_eq_false (show ¬ (bl:Int)>0 by omega)]; rfl,by rw[hm1]; exact h0,K0,S0⟩
 have hM1:=h1.M
 have hb1:m1.births<1000000:=by
  rw[hm1]; split
  ·unfold CN; rw[SY]; exact hb
  ·exact hb
 obtain ⟨τ2,e2⟩:=Y0 (k+2) r d c μ1
 obtain ⟨μ2,hμ2⟩:∃ μ2,μ1++τ2=μ2:=⟨_,rfl⟩
 rw[hμ2] at e2
 have e2':EL (k+5) r d c μ1=_:=e2
 have h2:TD μ2 j1 rb m1 t1 a:=hμ2 ▸ h1.app _
 have K2:Em j j1 rb σ μ2:=hμ2 ▸ K1.trans (Em.app _ _ _)
 have S2:μ2[σ.length]?=some (Bi.cells [Value.int .i64 r,.int .i64 d,.int .i64 c] Al true):=by rw[← hμ2,List.getElem?_append_left (Ae S1)]; exact S1
 obtain ⟨a0,a1,a2⟩:=bx S1
 obtain ⟨c0,c1,c2⟩:=bx S2
 have wq:Ac (x.tdiv 64)=x.tdiv 64:=by
  rw[Int.tdiv_eq_ediv_of_nonneg hx.1]; exact Ad (by unfold AW; omega)
 have es:Cd (k+5) (Ci j1) (x.tdiv 64) μ2=_:=Y1 (k+3) h2.g (x.tdiv 64)
 obtain ⟨μ3,j3,t3,e3,h3,K3⟩:=h2.rB (dZ k hk h2.g h2.P hM1.sh hb1 x r d c) (hM1.place x r d c)
 rw[Qs,M6]
 unfold gp
 simp only[Ap,hμ0,Option.bind_some,Nat.zero_add,Nat.add_zero,h0.al.XO,h0.al.l1,e1,if_true,Nat.reduceAdd,a0,a1,a2,e2',As,h2.al.XO,wq,es,Am,h2.al.l1,ph,c0,c1,c2,e3,E6]
 rw[if_neg (show ¬ (64:Int)=0 by decide)]
 have fin:Rw (bif (Br m1 x r d c).2.1 != 0 then (some (.tuple #[.int .i64 (0:Int),.int .i64 (6:Int)],μ3)) else (some (.tuple #[.int .i64 x,.int .i64 (0:Int)],μ3))) σ j rb (.tuple #[.int .i64 (if (Br m1 x r d c).2.1=0 then ((x,(0:Int)),(Br m1 x r d c).2.2) else ((0,6),(Br m1 x r d c).2.2)).1.1,.int .i64 (if (Br m1 x r d c).2.1=0 then ((x,(0:Int)),(Br m1 x r d c).2.2) else ((0,6),(Br m1 x r d c).2.2)).1.2]) (if (Br m1 x r d c).2.1=0 then ((x,(0:Int)),(Br m1 x r d c).2.2) else ((0,6),(Br m1 x r d c).2.2)).2 a:=by
  by_cases q:(Br m1 x r d c).2.1=0
  ·rw[if_pos q,show ((Br m1 x r d c).2.1 != 0)=false from by simpa using q]
   exact ⟨μ3,j3,t3,rfl,h3,K2.trans K3⟩
  ·rw[if_neg q,show ((Br m1 x r d c).2.1 != 0)=true from by simpa using q]
   exact ⟨μ3,j3,t3,rfl,h3,K2.trans K3⟩
 by_cases q:words r d c>32
 ·rw[if_neg (show ¬ (¬ words r d c>32∧LM m1 (x.tdiv 64)≠a.s) from fun hh=>hh.1 q)]
  simp only[decide_eq_true q,Bool.not_true,cond_false,Option.bind_some,h2.al.XO,c0,c1,c2,e3,E6]
  exact fin
 ·by_cases q2:LM m1 (x.tdiv 64)=a.s
  ·rw[if_neg (show ¬ (¬ words r d c>32∧LM m1 (x.tdiv 64)≠a.s) from fun hh=>hh.2 q2)]
   simp only[decide_eq_false q,Bool.not_false,cond_true,Option.bind_some,q2,bne_self_eq_false,cond_false,h2.al.XO,c0,c1,c2,e3,E6]
   exact fin
  ·rw[if_pos (show (¬ words r d c>32∧LM m1 (x.tdiv 64)≠a.s) from ⟨q,q2⟩)]
   simp only[decide_eq_false q,Bool.not_false,cond_true,Option.bind_some,show (LM m1 (x.tdiv 64) != a.s)=true from by simpa using q2]
   exact ⟨μ2,j1,t1,rfl,h2,K2⟩
theorem Vr {m1:HM} {r d c:Int} {pr:PR} (hv:valid r d c=true) (hw:¬ words r d c>32) (ho:pr.1.2=true) (hm:pr.2.1=m1):Bj m a r d c pr=((gp m1 a.s pr.1.1 r d c).1,(gp m1 a.s pr.1.1 r d c).2,if (gp m1 a.s pr.1.1 r d c).1.2=0 then pr.2.2 else a):=by
 unfold Bj gp
 rw[if_pos hv,if_pos ho,hm]
 by_cases q:LM m1 (pr.1.1.tdiv 64)=a.s
 ·rw[if_pos q,if_neg (show ¬ (¬ words r d c>32∧LM m1 (pr.1.1.tdiv 64)≠a.s) from fun hh=>hh.2 q)]
  by_cases q2:(Br m1 pr.1.1 r d c).2.1=0
  ·rw[if_pos q2,if_pos q2,if_pos rfl]
  ·rw[if_neg q2,if_neg q2,if_neg (by dsimp only; decide)]
 ·rw[if_neg q,if_pos ⟨hw,q⟩,if_neg (by dsimp only; decide)]
end Go.Proofs.YtlaplcglpnlieaaGreat
end
section
namespace Go.Proofs.YtlaplcglpnlieaaGreat
open Go Go.AX
noncomputable local instance vC:AF:=Au
local instance uw:Kn:=⟨true⟩
variable {σ:Aa} {m:HM} {t:RM} {j:RI} {rb:Nat} {a:AS}
theorem bO (k:Nat) (hk:5000≤k) (h:TD σ j rb m t a) (ho:a.ok) {r d c w:Int} (hv:valid r d c=true) (hw:words r d c=w) (hw2:¬ w>32) (hb:m.births<1000000):
  Rw (D0 (k+8) (D8 rb) r d c w σ) σ j rb (.tuple #[.int .i64 (Bj m a r d c (CA m a false w)).1.1,.int .i64 (Bj m a r d c (CA m a false w)).1.2]) (Bj m a r d c (CA m a false w)).2.1 (Bj m a r d c (CA m a false w)).2.2:=by
 have hc0:=ho.c0; have hl0:=ho.l0; have hoc:=ho.oc0; have hol:=ho.ol0
 have hnt:=h.g.nt; have hnb:=h.g.nb
 have hwp:=G1 hv
 rw[hw] at hwp
 have bx:∀ {μ:Aa} {q:Nat},μ[q]?=some (Bi.cells [Value.int .i64 r,.int .i64 d,.int .i64 c] Al true)→Ai .i64 μ q 0=some r∧Ai .i64 μ q 1=some d∧Ai .i64 μ q 2=some c:=by
  intro μ q hm; simp[Ai,Gy,hm,BA]
 obtain ⟨μ0,hμ0⟩:∃ μ0,σ++[Bi.cells [Value.int .i64 r,.int .i64 d,.int .i64 c] Al true]=μ0:=⟨_,rfl⟩
 have h0:TD μ0 j rb m t a:=hμ0 ▸ h.app _
 have K0:Em j j rb σ μ0:=hμ0 ▸ Em.app j σ _
 have S0:μ0[σ.length]?=some (Bi.cells [Value.int .i64 r,.int .i64 d,.int .i64 c] Al true):=by rw[← hμ0]; simp
 obtain ⟨b0,b1,b2⟩:=bx S0
 have ef:=ZB (k+4) (by omega) h0.g h0.M.fz (c:=1) (by decide)
 rw[← Ww (by omega),show ((1:Nat):Int)=1 from rfl] at ef
 have ef':E3 (k+7) (Ci j) 1 μ0=_:=ef
 have wd:Ac (a.l-a.c)=a.l-a.c:=Ad (by unfold AW; omega)
 have fin:∀ (x e:Int) (bl:Nat) (m1:HM),0≤x∧x≤20000→m1=(if 0<bl then CN m bl a.s else m)→CA m a false w=((x,true),m1,a.put false (x+w) e)→Rw ((Aw (k+7) (D8 rb) x (bl:Int) r d c μ0).bind fun r18=>Gu r18.1 fun n19 n20=>(bif n20 == (0:Int) then ((G0 r18.2 rb 3 (.int .i64 (Ac (x+w)))).bind fun s22=>(G0 s22 rb 4 (.int .i64 e)).bind fun s24=>some (.normal,[],s24)) else (some (.normal,[],r18.2)):Option Ay).bind fun r25=>if r25.1 = .normal then (some (.tuple #[.int .i64 n19,.int .i64 n20],r25.2.2)) else none) σ j rb (.tuple #[.int .i64 (Bj m a r d c (CA m a false w)).1.1,.int .i64 (Bj m a r d c (CA m a false w)).1.2]) (Bj m a r d c (CA m a false w)).2.1 (Bj m a r d c (CA m a false w)).2.2:=by
  intro x e bl m1 hx hm1 hpr
  rw[hpr,Vr (m1:=m1) hv (by rw[hw]; exact hw2) rfl rfl]
  obtain ⟨μ1,j1,t1,e1,h1,K1⟩:=S7 (k+1) (by omega) h0 (x:=x) (by omega) bl (r:=r) (d:=d) (c:=c) hb hm1
  dsimp only
  generalize gp m1 a.s x r d c=pl at *
  have e1':Aw (k+7) (D8 rb) x (bl:Int) r d c μ0=_:=e1
  simp only[e1',Option.bind_some,E6,Ad (show AW (x+w) by unfold AW; omega)]
  by_cases q:pl.1.2=0
  ·rw[if_pos q]
   have s1:=h1.al.G0 3 (.int .i64 (x+w)) { a with c:=x+w } rfl (by decide)
   have h2:=h1.RH { a with c:=x+w }
   have s2:=h2.al.G0 4 (.int .i64 e) (a.put false (x+w) e) rfl (by decide)
   have h3:=h2.RH (a.put false (x+w) e)
   simp only[show (pl.1.2 == 0)=true from by simpa using q,cond_true,s1,Option.bind_some,s2,if_true]
   exact ⟨_,j1,t1,rfl,h3,((K0.trans K1).trans (Em.set _ _ _)).trans (Em.set _ _ _)⟩
  ·rw[if_neg q]
   simp only[show (pl.1.2 == 0)=false from by simpa using q,cond_false,Option.bind_some,if_true]
   exact ⟨μ1,j1,t1,rfl,h1,K0.trans K1⟩
 rw[QM,Nc]
 simp only[Ap,hμ0,Option.bind_some,Nat.zero_add,Nat.add_zero,Nat.reduceAdd,h0.al.l3,h0.al.l4,wd,h0.al.XO,ef',Am]
 by_cases q:a.l-a.c≥w
 ·have hpr:CA m a false w=((a.c,true),m,a.put false (a.c+w) a.l):=by
   unfold CA; rw[if_pos (show a.li false-a.cu false≥w from q)]; rfl
  have:=fin a.c a.l 0 m (by omega) rfl hpr
  simp only[decide_eq_false (show ¬ a.l-a.c<w by omega),cond_false,Option.bind_some,if_true,XJ,b0,b1,b2]
  exact this
 ·simp only[decide_eq_true (show a.l-a.c<w by omega),cond_true]
  cases hf:Hs m with
  | none=>
    have hpr:CA m a false w=((0,false),m,a):=by
     unfold CA; rw[if_neg (show ¬ a.li false-a.cu false≥w from q),hf]
    have hX:Bj m a r d c (CA m a false w)=((0,6),m,a):=by
     unfold Bj; rw[if_pos hv,hpr,if_neg (by dsimp only; decide)]
    rw[hX]
    simp only[beq_self_eq_true,cond_true,Option.bind_some,show (Bm.ret=Bm.normal)=False from by simp,if_false,if_true,GK]
    exact ⟨μ0,j,t,rfl,h0,K0⟩
  | some b=>
    have hb1:=Hg hf
    have hpr:CA m a false w=((64*(b:Int),true),CN m b a.s,a.put false (64*(b:Int)+w) (64*(b:Int)+64)):=by
     unfold CA; rw[if_neg (show ¬ a.li false-a.cu false≥w from q),hf]
    have:=fin (64*(b:Int)) (64*(b:Int)+64) b (CN m b a.s) (by omega) (by rw[if_pos (by omega)]) hpr
    have w1:Ac ((b:Int)*64)=64*(b:Int):=by rw[Ad (by unfold AW; omega)]; omega
    have w2:Ac ((b:Int)+1)=(b:Int)+1:=Ad (by unfold AW; omega)
    have w3:Ac (((b:Int)+1)*64)=64*(b:Int)+64:=by rw[Ad (by unfold AW; omega)]; omega
    simp only[show (((b:Nat):Int) == 0)=false from by rw[beq_eq_false_iff_ne]; omega,cond_false,w1,w2,w3,Option.bind_some,if_true,XJ,b0,b1,b2]
    exact this
theorem pa (k:Nat) (hk:5000≤k) (h:TD σ j rb m t a) (ho:a.ok) {r d c w:Int} (hv:valid r d c=true) (hw:words r d c=w) (hw2:¬ w>32) (hb:m.births<1000000):
  Rw (Fw (k+8) (D8 rb) r d c w σ) σ j rb (.tuple #[.int .i64 (Bj m a r d c (CA m a true w)).1.1,.int .i64 (Bj m a r d c (CA m a true w)).1.2]) (Bj m a r d c (CA m a true w)).2.1 (Bj m a r d c (CA m a true w)).2.2:=by
 have hc0:=ho.c0; have hl0:=ho.l0; have hoc:=ho.oc0; have hol:=ho.ol0
 have hnt:=h.g.nt; have hnb:=h.g.nb
 have hwp:=G1 hv
 rw[hw] at hwp
 have bx:∀ {μ:Aa} {q:Nat},μ[q]?=some (Bi.cells [Value.int .i64 r,.int .i64 d,.int .i64 c] Al true)→Ai .i64 μ q 0=some r∧Ai .i64 μ q 1=some d∧Ai .i64 μ q 2=some c:=by
  intro μ q hm; simp[Ai,Gy,hm,BA]
 obtain ⟨μ0,hμ0⟩:∃ μ0,σ++[Bi.cells [Value.int .i64 r,.int .i64 d,.int .i64 c] Al true]=μ0:=⟨_,rfl⟩
 have h0:TD μ0 j rb m t a:=hμ0 ▸ h.app _
 have K0:Em j j rb σ μ0:=hμ0 ▸ Em.app j σ _
 have S0:μ0[σ.length]?=some (Bi.cells [Value.int .i64 r,.int .i64 d,.int .i64 c] Al true):=by rw[← hμ0]; simp
 obtain ⟨b0,b1,b2⟩:=bx S0
 have ef:=ZB (k+4) (by omega) h0.g h0.M.fz (c:=1) (by decide)
 rw[← Ww (by omega),show ((1:Nat):Int)=1 from rfl] at ef
 have ef':E3 (k+7) (Ci j) 1 μ0=_:=ef
 have wd:Ac (a.ol-a.oc)=a.ol-a.oc:=Ad (by unfold AW; omega)
 have fin:∀ (x e:Int) (bl:Nat) (m1:HM),0≤x∧x≤20000→m1=(if 0<bl then CN m bl a.s else m)→CA m a true w=((x,true),m1,a.put true (x+w) e)→Rw ((Aw (k+7) (D8 rb) x (bl:Int) r d c μ0).bind fun r18=>Gu r18.1 fun n19 n20=>(bif n20 == (0:Int) then ((G0 r18.2 rb 5 (.int .i64 (Ac (x+w)))).bind fun s22=>(G0 s22 rb 6 (.int .i64 e)).bind fun s24=>some (.normal,[],s24)) else (some (.normal,[],r18.2)):Option Ay).bind fun r25=>if r25.1 = .normal then (some (.tuple #[.int .i64 n19,.int .i64 n20],r25.2.2)) else none) σ j rb (.tuple #[.int .i64 (Bj m a r d c (CA m a true w)).1.1,.int .i64 (Bj m a r d c (CA m a true w)).1.2]) (Bj m a r d c (CA m a true w)).2.1 (Bj m a r d c (CA m a true w)).2.2:=by
  intro x e bl m1 hx hm1 hpr
  rw[hpr,Vr (m1:=m1) hv (by rw[hw]; exact hw2) rfl rfl]
  obtain ⟨μ1,j1,t1,e1,h1,K1⟩:=S7 (k+1) (by omega) h0 (x:=x) (by omega) bl (r:=r) (d:=d) (c:=c) hb hm1
  dsimp only
  generalize gp m1 a.s x r d c=pl at *
  have e1':Aw (k+7) (D8 rb) x (bl:Int) r d c μ0=_:=e1
  simp only[e1',Option.bind_some,E6,Ad (show AW (x+w) by unfold AW; omega)]
  by_cases q:pl.1.2=0
  ·rw[if_pos q]
   have s1:=h1.al.G0 5 (.int .i64 (x+w)) { a with oc:=x+w } rfl (by decide)
   have h2:=h1.RH { a with oc:=x+w }
   have s2:=h2.al.G0 6 (.int .i64 e) (a.put true (x+w) e) rfl (by decide)
   have h3:=h2.RH (a.put true (x+w) e)
   simp only[show (pl.1.2 == 0)=true from by simpa using q,cond_true,s1,Option.bind_some,s2,if_true]
   exact ⟨_,j1,t1,rfl,h3,((K0.trans K1).trans (Em.set _ _ _)).trans (Em.set _ _ _)⟩
  ·rw[if_neg q]
   simp only[show (pl.1.2 == 0)=false from by simpa using q,cond_false,Option.bind_some,if_true]
   exact ⟨μ1,j1,t1,rfl,h1,K0.trans K1⟩
 rw[QO,Nf]
 simp only[Ap,hμ0,Option.bind_some,Nat.zero_add,Nat.add_zero,Nat.reduceAdd,h0.al.l5,h0.al.l6,wd,h0.al.XO,ef',Am]
 by_cases q:a.ol-a.oc≥w
 ·have hpr:CA m a true w=((a.oc,true),m,a.put true (a.oc+w) a.ol):=by
   unfold CA; rw[if_pos (show a.li true-a.cu true≥w from q)]; rfl
  have:=fin a.oc a.ol 0 m (by omega) rfl hpr
  simp only[decide_eq_false (show ¬ a.ol-a.oc<w by omega),cond_false,Option.bind_some,if_true,XJ,b0,b1,b2]
  exact this
 ·simp only[decide_eq_true (show a.ol-a.oc<w by omega),cond_true]
  cases hf:Hs m with
  | none=>
    have hpr:CA m a true w=((0,false),m,a):=by
     unfold CA; rw[if_neg (show ¬ a.li true-a.cu true≥w from q),hf]
    have hX:Bj m a r d c (CA m a true w)=((0,6),m,a):=by
     unfold Bj; rw[if_pos hv,hpr,if_neg (by dsimp only; decide)]
    rw[hX]
    simp only[beq_self_eq_true,cond_true,Option.bind_some,show (Bm.ret=Bm.normal)=False from by simp,if_false,if_true,GK]
    exact ⟨μ0,j,t,rfl,h0,K0⟩
  | some b=>
    have hb1:=Hg hf
    have hpr:CA m a true w=((64*(b:Int),true),CN m b a.s,a.put true (64*(b:Int)+w) (64*(b:Int)+64)):=by
     unfold CA; rw[if_neg (show ¬ a.li true-a.cu true≥w from q),hf]
    have:=fin (64*(b:Int)) (64*(b:Int)+64) b (CN m b a.s) (by omega) (by rw[if_pos (by omega)]) hpr
    have w1:Ac ((b:Int)*64)=64*(b:Int):=by rw[Ad (by unfold AW; omega)]; omega
    have w2:Ac ((b:Int)+1)=(b:Int)+1:=Ad (by unfold AW; omega)
    have w3:Ac (((b:Int)+1)*64)=64*(b:Int)+64:=by rw[Ad (by unfold AW; omega)]; omega
    simp only[show (((b:Nat):Int) == 0)=false from by rw[beq_eq_false_iff_ne]; omega,cond_false,w1,w2,w3,Option.bind_some,if_true,XJ,b0,b1,b2]
    exact this
theorem UX (k:Nat) (hk:5000≤k) (h:TD σ j rb m t a):∀ (n x f:Nat) (τ:Aa) (o:E8),x+n=m.bls.length→BQ Af 2 (σ++τ) o (Di m (Bg m a.s x)).length (AL (Di m (Bg m a.s x)))→(∀ y,o.1=some y→σ.length≤y.block)→n<f →
  ∃ τ' o',Ds (k+4) f (D8 rb) o (x:Int) (σ++τ)=some (.exit 0,[.slice o'.1 o'.2.1 o'.2.2],σ++τ')∧BQ Af 2 (σ++τ') o' (Di m (Bg m a.s m.bls.length)).length (AL (Di m (Bg m a.s m.bls.length)))
 | n,x,0,τ,o,hx,hs,hb,hf=>by omega
 | 0,x,f+1,τ,o,hx,hs,hb,hf=>by
   obtain rfl:x=m.bls.length:=by omega
   have h1:=h.app τ
   have eb:Bs (k+4) (Ci j) (σ++τ)=_:=Q7 (k+2) h1.g
   rw[J3,Hv]
   exact ⟨τ,o,by simp only[Option.bind_some,Nat.add_zero,h1.al.XO,eb,Am,decide_eq_false (Int.lt_irrefl _),cond_false],hs⟩
 | n+1,x,f+1,τ,o,hx,hs,hb,hf=>by
   have hnt:=h.g.nt
   have h1:=h.app τ
   have hxl:x<m.bls.length:=by omega
   have eb:Bs (k+4) (Ci j) (σ++τ)=_:=Q7 (k+2) h1.g
   have e1:Bk (k+4) (Ci j) (x:Int) (σ++τ)=_:=S6 (k+2) h1.g (x:Int)
   have e2:Cd (k+4) (Ci j) (x:Int) (σ++τ)=_:=Y1 (k+2) h1.g (x:Int)
   have es:Ih m (x:Int)=(m.bls.getD x (0,0)).1:=by unfold Ih; rw[if_pos (by omega),Int.toNat_natCast]
   have ep:WN m (x:Int)=(m.bls.getD x (0,0)).2:=by unfold WN; rw[if_pos (by omega),Int.toNat_natCast]
   have w1:Ac ((x:Int)+1)=((x+1:Nat):Int):=Ad (by unfold AW; omega)
   rw[J3,Hv]
   simp only[Option.bind_some,Nat.add_zero,Nat.zero_add,h1.al.XO,eb,Am,decide_eq_true (show (x:Int)<((m.bls.length:Nat):Int) by omega),cond_true,e1,e2,es,ep,h1.al.l1,w1]
   rw[kW]
   by_cases q:(m.bls.getD x (0,0)).1=1∧(m.bls.getD x (0,0)).2=a.s
   ·obtain ⟨τ1,s1,e3,g1,lo1⟩:=oS k hk h1.g (x:Int)
    have hlen:=MJ m (x:Int)
    have hol:(Di m (Bg m a.s x)).length≤64*33:=by
     have hb2:=IY m a.s x
     have aux:∀ L:List Nat,(L.flatMap fun b:Nat=>EN m (b:Int)).length≤L.length*33:=by
      intro L
      induction L with
      | nil=>simp
      | cons b L ih=>
        have:=MJ m (b:Int)
        rw[List.flatMap_cons,List.length_append,List.length_cons]; omega
     have:=aux (Bg m a.s x)
     unfold Di; omega
    have hnext:Di m (Bg m a.s (x+1))=Di m (Bg m a.s x)++EN m (x:Int):=by
     rw[Nk,if_pos q]; simp[Di]
    obtain ⟨o1,τ2,e4,g2,lo2⟩:∃ o1 τ2,Bv P Af (o.1,o.2.1,o.2.2) (s1.1,s1.2.1,s1.2.2) (σ++τ++τ1)=some (o1,σ++τ2)∧BQ Af 2 (σ++τ2) o1 (Di m (Bg m a.s (x+1))).length (AL (Di m (Bg m a.s (x+1)))) ∧ ∀ y,o1.1=some y→σ.length≤y.block:=by
     have f0:=g1.first
     have l2:=g1.len
     rw[hnext]
     by_cases hz:EN m (x:Int)=[]
     ·rw[hz] at f0 l2
      refine ⟨o,τ++τ1, ?_,by rw[hz,List.append_nil,← List.append_assoc]; exact hs.app _,hb⟩
      rw[show s1.2.1=0 from l2,← List.append_assoc]
      exact QX cq au c9 rfl rfl (by decide) (σ++τ++τ1) o _ _ s1.1 s1.2.2 (hs.app _) f0
     ·have hp:0<(EN m (x:Int)).length:=List.length_pos_iff.2 hz
      obtain ⟨o1,μ3,e,g,hh⟩:=PY cq au c9 rfl rfl (by decide) (by decide) (by decide) (σ++τ++τ1) o _ _ s1.1 (EN m (x:Int)).length s1.2.2 (AL (EN m (x:Int))) (by omega) hp (KG _) (hs.app _) f0
      rw[List.append_assoc] at g
      obtain ⟨⟨τ2,rfl⟩,h2⟩:=g.behind hb
      rw[l2]
      exact ⟨o1,τ2,e,by rw[Jv,List.length_append]; exact hh,h2⟩
    obtain ⟨τ3,o3,e5,g3⟩:=UX k hk h n (x+1) f τ2 o1 (by omega) g2 lo2 (by omega)
    refine ⟨τ3,o3, ?_,g3⟩
    simp only[decide_eq_true q,Option.bind_some,cond_true,h1.al.XO,e3,H7,e4,if_true,F7]
    exact e5
   ·obtain ⟨τ3,o3,e5,g3⟩:=UX k hk h n (x+1) f τ o (by omega) (by rw[Nk,if_neg q,List.append_nil]; exact hs) hb (by omega)
    refine ⟨τ3,o3, ?_,g3⟩
    simp only[decide_eq_false q,Option.bind_some,cond_false,if_true,F7]
    exact e5
theorem oY (k:Nat) (hk:5000≤k) (h:TD σ j rb m t a):∃ τ o,Fv (k+5) (D8 rb) σ=some (.slice o.1 o.2.1 o.2.2,σ++τ)∧BQ Af 2 (σ++τ) o (Di m (Bg m a.s m.bls.length)).length (AL (Di m (Bg m a.s m.bls.length))):=by
 have hnt:=h.g.nt; have hnb:=h.g.nb
 have hb1:Bg m a.s 1=[]:=by
  rw[Nk]
  have hb0:=h.M.b0
  unfold B0 at hb0
  rw[if_neg (by omega)]; rfl
 obtain ⟨τ,o,e,g⟩:=UX k hk h (m.bls.length-1) 1 (k+4) [] (none,0,0) (by omega) (by rw[hb1]; exact BQ.nil _ _ _) (fun y hy=>by cases hy) (by omega)
 rw[List.append_nil,show ((1:Nat):Int)=1 from rfl] at e
 refine ⟨τ,o, ?_,g⟩
 rw[QN,Nd]
 simp only[e,Option.bind_some,if_true,F7]
theorem Xh (k:Nat) (h:TD σ j rb m t a) {cc w:Nat} (hcc:a.c=(cc:Int)) (hc2:cc≤10000) (hw:1≤w∧w≤1000) {R:List (Nat × Nat)} (hR:R.length≤5000) (hRb:∀ g ∈ R,g.1+g.2≤10000) {s:E8} (hs:BQ Af 2 σ s R.length (AL R)):∀ (n x f:Nat),x+n=R.length→n<f →
  CQ k f (D8 rb) (w:Int) s.1 R.length s.2.2 (x:Int) σ=some (match ((R.drop x).filterMap (J1 cc w)).head? with | some g=>(.ret,[.int .i64 (g.1:Int),.bool true],σ) | none=>(.exit 0,[],σ))
 | n,x,0,hx,hf=>by omega
 | 0,x,f+1,hx,hf=>by
   rw[IJ,GF,List.drop_of_length_le (by omega)]
   simp only[decide_eq_false (show ¬ (x:Int)<((R.length:Nat):Int) by omega),cond_false]
   rfl
 | n+1,x,f+1,hx,hf=>by
   have hxl:x<R.length:=by omega
   obtain ⟨b,e0,l0,l1⟩:=RJ hs hxl
   have eg:R.getD x (0,0)=R[x]:=by rw[List.getD_eq_getElem?_getD,List.getElem?_eq_getElem hxl]; rfl
   rw[eg] at l0 l1
   have hg:=hRb _ (List.getElem_mem hxl)
   have qx:(0≤(x:Int)∧(x:Int)<((R.length:Nat):Int))=True:=eq_true (by omega)
   have w1:Ac ((x:Int)+1)=((x+1:Nat):Int):=Ad (by unfold AW; omega)
   have w2:Ac (((R[x]).1:Int)+((R[x]).2:Int))=(((R[x]).1+(R[x]).2:Nat):Int):=Ad (by unfold AW; omega)
   have w3:(if a.c>((R[x]).1:Int) then a.c else ((R[x]).1:Int))=((max cc (R[x]).1:Nat):Int):=by rw[hcc]; split <;> omega
   have w4:Ac ((((R[x]).1+(R[x]).2:Nat):Int)-((max cc (R[x]).1:Nat):Int))=(((R[x]).1+(R[x]).2:Nat):Int)-((max cc (R[x]).1:Nat):Int):=Ad (by unfold AW; omega)
   have ih:=Xh k h hcc hc2 hw hR hRb hs n (x+1) f (by omega) (by omega)
   rw[e0] at ih
   have hdr:R.drop x=R[x]::R.drop (x+1):=List.drop_eq_getElem_cons hxl
   rw[IJ,GF,hdr]
   simp only[decide_eq_true (show (x:Int)<((R.length:Nat):Int) by omega),cond_true,qx,if_true,e0,Option.bind_some,Int.toNat_natCast,Nat.zero_add,Nat.add_zero,l0,l1,h.al.l3,w1,w2,w3,w4,ih]
   by_cases q:w≤(R[x]).1+(R[x]).2-max cc (R[x]).1
   ·have hc:J1 cc w R[x]=some (max cc (R[x]).1,(R[x]).1+(R[x]).2-max cc (R[x]).1):=by unfold J1; rw[if_pos q]
    rw[List.filterMap_cons_some hc]
    simp only[decide_eq_true (show (((R[x]).1+(R[x]).2:Nat):Int)-((max cc (R[x]).1:Nat):Int)≥(w:Int) by omega),cond_true,List.head?_cons]
   ·have hc:J1 cc w R[x]=none:=by unfold J1; rw[if_neg q]
    rw[List.filterMap_cons_none hc]
    simp only[decide_eq_false (show ¬ (((R[x]).1+(R[x]).2:Nat):Int)-((max cc (R[x]).1:Nat):Int)≥(w:Int) by omega),cond_false]
def IV (p1:Bool) (w:Nat) (acc:Option (Nat × Nat)) (g:Nat × Nat):Option (Nat × Nat):=
 if g.2<w then acc else match acc with
  | none=>some g
  | some b=>if p1=true∧g.2<b.2 then some g else acc
theorem KN (k:Nat) (h:TD σ j rb m t a) {w:Nat} {R:List (Nat × Nat)} (hR:R.length≤5000) {s:E8} (hs:BQ Af 2 σ s R.length (AL R)):∀ (n x f:Nat) (bi:Int) (acc:Option (Nat × Nat)),x+n=R.length→n<f→((bi = -1∧acc=none) ∨ ∃ b:Nat,bi=(b:Int) ∧ ∃ hb:b<R.length,acc=some R[b]) →
  ∃ bi':Int,CR k f (D8 rb) (w:Int) s.1 R.length s.2.2 bi (x:Int) σ=some (.exit 2,[.int .i64 bi'],σ)∧((bi' = -1∧(R.drop x).foldl (IV (decide (a.p=1)) w) acc=none) ∨ ∃ b:Nat,bi'=(b:Int) ∧ ∃ hb:b<R.length,(R.drop x).foldl (IV (decide (a.p=1)) w) acc=some R[b])
 | n,x,0,bi,acc,hx,hf,hi=>by omega
 | 0,x,f+1,bi,acc,hx,hf,hi=>by
   rw[IK,GG,List.drop_of_length_le (by omega)]
   exact ⟨bi,by simp only[decide_eq_false (show ¬ (x:Int)<((R.length:Nat):Int) by omega),cond_false],hi⟩
 | n+1,x,f+1,bi,acc,hx,hf,hi=>by
   have hxl:x<R.length:=by omega
   obtain ⟨b,e0,l0,l1⟩:=RJ hs hxl
   have eg:∀ y (hy:y<R.length),R.getD y (0,0)=R[y]:=fun y hy=>by rw[List.getD_eq_getElem?_getD,List.getElem?_eq_getElem hy]; rfl
   rw[eg x hxl] at l0 l1
   have qx:(0≤(x:Int)∧(x:Int)<((R.length:Nat):Int))=True:=eq_true (by omega)
   have w1:Ac ((x:Int)+1)=((x+1:Nat):Int):=Ad (by unfold AW; omega)
   have hdr:R.drop x=R[x]::R.drop (x+1):=List.drop_eq_getElem_cons hxl
   rw[IK,GG,hdr,List.foldl_cons]
   simp only[decide_eq_true (show (x:Int)<((R.length:Nat):Int) by omega),cond_true,qx,if_true,e0,Option.bind_some,Int.toNat_natCast,Nat.zero_add,Nat.add_zero,l1,w1,h.al.l2]
   by_cases q:(R[x]).2<w
   ·obtain ⟨bi',e1,r1⟩:=KN k h (w:=w) hR hs n (x+1) f bi acc (by omega) (by omega) hi
    rw[e0] at e1
    refine ⟨bi', ?_, ?_⟩
    ·simp only[decide_eq_true (show (((R[x]).2:Nat):Int)<(w:Int) by omega),cond_true,e1]
    ·unfold IV; rw[if_pos q]; exact r1
   ·simp only[decide_eq_false (show ¬ (((R[x]).2:Nat):Int)<(w:Int) by omega),cond_false]
    rcases hi with ⟨rfl,rfl⟩ | ⟨b',rfl,hb',rfl⟩
    ·obtain ⟨bi',e1,r1⟩:=KN k h (w:=w) hR hs n (x+1) f (x:Int) (some R[x]) (by omega) (by omega) (.inr ⟨x,rfl,hxl,rfl⟩)
     rw[e0] at e1
     refine ⟨bi', ?_, ?_⟩
     ·simp only[decide_eq_true (show (-1:Int)<0 by decide),cond_true,Option.bind_some,if_true,D4,e1]
     ·rw[show IV (decide (a.p=1)) w none R[x]=some R[x] from by unfold IV; rw[if_neg q]]; exact r1
    ·obtain ⟨_,e0',_,l1'⟩:=RJ hs hb'
     rw[e0] at e0'; cases e0'
     rw[eg b' hb'] at l1'
     have qb:(0≤(b':Int)∧(b':Int)<((R.length:Nat):Int))=True:=eq_true (by omega)
     simp only[decide_eq_false (show ¬ (b':Int)<0 by omega),cond_false,qb,if_true,l1',Option.bind_some,Int.toNat_natCast,Nat.zero_add]
     by_cases q2:a.p=1
     ·simp only[show (a.p == 1)=true from by simpa using q2,cond_true,Option.bind_some]
      by_cases q3:(R[x]).2<(R[b']).2
      ·obtain ⟨bi',e1,r1⟩:=KN k h (w:=w) hR hs n (x+1) f (x:Int) (some R[x]) (by omega) (by omega) (.inr ⟨x,rfl,hxl,rfl⟩)
       rw[e0] at e1
       refine ⟨bi', ?_, ?_⟩
       ·simp only[decide_eq_true (show (((R[x]).2:Nat):Int)<(((R[b']).2:Nat):Int) by omega),cond_true,Option.bind_some,if_true,D4,e1]
       ·rw[show IV (decide (a.p=1)) w (some R[b']) R[x]=some R[x] from by unfold IV; rw[if_neg q,decide_eq_true q2]; exact if_pos ⟨rfl,q3⟩]; exact r1
      ·obtain ⟨bi',e1,r1⟩:=KN k h (w:=w) hR hs n (x+1) f (b':Int) (some R[b']) (by omega) (by omega) (.inr ⟨b',rfl,hb',rfl⟩)
       rw[e0] at e1
       refine ⟨bi', ?_, ?_⟩
       ·simp only[decide_eq_false (show ¬ (((R[x]).2:Nat):Int)<(((R[b']).2:Nat):Int) by omega),cond_false,Option.bind_some,if_true,D4,e1]
       ·rw[show IV (decide (a.p=1)) w (some R[b']) R[x]=some R[b'] from by unfold IV; rw[if_neg q]; exact if_neg (fun hh=>q3 hh.2)]; exact r1
     ·simp only[show (a.p == 1)=false from by simpa using q2,cond_false,Option.bind_some]
      obtain ⟨bi',e1,r1⟩:=KN k h (w:=w) hR hs n (x+1) f (b':Int) (some R[b']) (by omega) (by omega) (.inr ⟨b',rfl,hb',rfl⟩)
      rw[e0] at e1
      refine ⟨bi', ?_, ?_⟩
      ·simp only[cond_false,Option.bind_some,if_true,D4,e1]
      ·rw[show IV (decide (a.p=1)) w (some R[b']) R[x]=some R[b'] from by unfold IV; rw[if_neg q,decide_eq_false q2]; exact if_neg (fun hh=>by cases hh.1)]; exact r1
theorem pQ (w:Nat) (hw:1≤w) (g:Nat × Nat):J1 0 w g=if g.2<w then none else some g:=by
 unfold J1
 obtain ⟨x,y⟩:=g
 by_cases q:y<w
 ·rw[if_pos q,if_neg (by dsimp only; omega)]
 ·rw[if_neg q,if_pos (by dsimp only; omega)]
  dsimp only
  congr 2 <;> omega
theorem Wu (w:Nat) (hw:1≤w):∀ (l:List (Nat × Nat)) (acc:Option (Nat × Nat)),l.foldl (IV false w) acc=acc.or (l.filterMap (J1 0 w)).head?
 | [],acc=>by cases acc <;> rfl
 | g::l,acc=>by
   rw[List.foldl_cons,Wu w hw l]
   by_cases q:g.2<w
   ·rw[List.filterMap_cons_none (by rw[pQ w hw,if_pos q]),show IV false w acc g=acc from by unfold IV; rw[if_pos q]]
   ·rw[List.filterMap_cons_some (by rw[pQ w hw,if_neg q])]
    cases acc with
    | none=>rw[show IV false w none g=some g from by unfold IV; rw[if_neg q]]; rfl
    | some b=>rw[show IV false w (some b) g=some b from by unfold IV; rw[if_neg q]; exact if_neg (fun hh=>by cases hh.1)]; rfl
theorem dt (w:Nat) (hw:1≤w):∀ (l:List (Nat × Nat)) (acc:Option (Nat × Nat)),l.foldl (IV true w) acc=(match acc with | none=>Kv (l.filterMap (J1 0 w)) | some b=>match Kv (l.filterMap (J1 0 w)) with | none=>some b | some h=>if h.2<b.2 then some h else some b)
 | [],acc=>by cases acc <;> rfl
 | g::l,acc=>by
   rw[List.foldl_cons,dt w hw l]
   by_cases q:g.2<w
   ·rw[List.filterMap_cons_none (by rw[pQ w hw,if_pos q]),show IV true w acc g=acc from by unfold IV; rw[if_pos q]]
   ·rw[List.filterMap_cons_some (by rw[pQ w hw,if_neg q])]
    cases acc with
    | none=>
      rw[show IV true w none g=some g from by unfold IV; rw[if_neg q]]
      rfl
    | some b=>
      rw[show IV true w (some b) g=if g.2<b.2 then some g else some b from by unfold IV; rw[if_neg q]; simp]
      simp only[Kv]
      cases Kv (l.filterMap (J1 0 w)) with
      | none=>by_cases q2:g.2<b.2 <;> simp[q2]
      | some h=>
        by_cases q2:g.2<b.2
        ·rw[if_pos q2]
         dsimp only
         by_cases q3:h.2<g.2
         ·rw[if_pos q3]; dsimp only; rw[if_pos (by omega)]
         ·rw[if_neg q3]; dsimp only; rw[if_pos q2]
        ·rw[if_neg q2]
         dsimp only
         by_cases q3:h.2<g.2
         ·rw[if_pos q3]
         ·rw[if_neg q3]; dsimp only; rw[if_neg q2,if_neg (by omega)]
def V6 (m:HM) (a:AS) (w:Nat):Option (Nat × Nat):=
 if a.p=2 then (Bx m a.s a.c.toNat w++Bx m a.s 0 w).head?
 else if a.p=1 then Kv (Bx m a.s 0 w) else (Bx m a.s 0 w).head?
theorem mb (k:Nat) (hk:8000≤k) (h:TD σ j rb m t a) (ho:a.ok) {w:Nat} (hw:1≤w∧w≤1000):∃ τ,DM (k+6) (D8 rb) (w:Int) σ=some (.tuple #[.int .i64 (match V6 m a w with | some g=>(g.1:Int) | none=>0),.bool (V6 m a w).isSome],σ++τ):=by
 have hc0:=ho.c0
 have hnt:=h.g.nt
 obtain ⟨cc,hcc⟩:∃ cc:Nat,a.c=(cc:Int):=⟨a.c.toNat,by omega⟩
 obtain ⟨τ,s,e1,h1⟩:=oY k (by omega) h
 have hR2:=h.app τ
 have hRl:(Di m (Bg m a.s m.bls.length)).length≤64*33:=by
  have hb2:=IY m a.s m.bls.length
  have aux:∀ L:List Nat,(L.flatMap fun b:Nat=>EN m (b:Int)).length≤L.length*33:=by
   intro L
   induction L with
   | nil=>simp
   | cons b L ih=>
     have:=MJ m (b:Int)
     rw[List.flatMap_cons,List.length_append,List.length_cons]; omega
  have:=aux (Bg m a.s m.bls.length)
  unfold Di; omega
 have hRb:∀ g ∈ Di m (Bg m a.s m.bls.length),g.1+g.2≤10000:=fun g hg=>by
  unfold Di at hg
  obtain ⟨b,_,hb⟩:=List.mem_flatMap.1 hg
  exact Xo hnt _ g hb
 have hgf:∀ f,Bx m a.s f w=(Di m (Bg m a.s m.bls.length)).filterMap (J1 f w):=fun f=>rfl
 unfold V6
 simp only[hgf]
 generalize Di m (Bg m a.s m.bls.length)=R at *
 have e2:=Xh (k+5) hR2 hcc (by omega) hw (by omega) hRb h1 R.length 0 (k+5) (by omega) (by omega)
 obtain ⟨bi,e3,r3⟩:=KN (k+5) hR2 (w:=w) (by omega) h1 R.length 0 (k+5) (-1) none (by omega) (by omega) (.inl ⟨rfl,rfl⟩)
 rw[List.drop_zero] at e2 r3
 rw[show ((0:Nat):Int)=0 from rfl] at e2 e3
 refine ⟨τ, ?_⟩
 rw[PI,Lz]
 simp only[e1,Option.bind_some,H7,h1.len,Nat.zero_add,hR2.al.l2,e2,e3,show a.c.toNat=cc from by omega]
 have fin:∀ (G:Option (Nat × Nat)),R.foldl (IV (decide (a.p=1)) w) none=G→(if Bm.exit 2=Bm.exit 2 then (SH [Value.int .i64 bi] fun n30=>bif decide (n30<(0:Int)) then (some (Value.tuple #[.int .i64 (0:Int),.bool false],σ++τ)) else (if 0≤n30∧n30<(R.length:Nat) then s.1.bind fun a31=>(Ai .i64 (σ++τ) a31.block (a31.off+n30.toNat*2+0)).bind fun n32=>some (.tuple #[.int .i64 n32,.bool true],σ++τ) else none)) else none)=some (.tuple #[.int .i64 (match G with | some g=>(g.1:Int) | none=>0),.bool G.isSome],σ++τ):=by
  intro G hG
  rw[if_pos rfl,D4]
  rcases r3 with ⟨rfl,r3⟩ | ⟨b,rfl,hb,r3⟩
  ·rw[hG] at r3; subst r3
   rw[decide_eq_true (show (-1:Int)<0 by decide)]; rfl
  ·rw[hG] at r3; subst r3
   obtain ⟨q,e0,l0,_⟩:=RJ h1 hb
   have eg:R.getD b (0,0)=R[b]:=by rw[List.getD_eq_getElem?_getD,List.getElem?_eq_getElem hb]; rfl
   rw[eg] at l0
   rw[decide_eq_false (show ¬ (b:Int)<0 by omega),cond_false,if_pos (by omega),e0]
   simp only[Option.bind_some,Int.toNat_natCast,Nat.zero_add,Nat.add_zero,l0,Option.isSome_some]
 have p0:=ho.p0
 by_cases q2:a.p=2
 ·have hf:R.foldl (IV (decide (a.p=1)) w) none=(R.filterMap (J1 0 w)).head?:=by
   rw[decide_eq_false (by omega),Wu w hw.1]; rfl
  rw[if_pos q2]
  simp only[show (a.p == 2)=true from by simpa using q2,cond_true]
  cases hc:(R.filterMap (J1 cc w)).head? with
  | some g=>
    have:(R.filterMap (J1 cc w)++R.filterMap (J1 0 w)).head?=some g:=by rw[List.head?_append,hc]; rfl
    rw[this]
    simp only[show (Bm.ret=Bm.exit 0)=False from by simp,if_false,if_true,XL,Option.bind_some,show (Bm.ret=Bm.normal)=False from by simp,Option.isSome_some]
  | none=>
    have:(R.filterMap (J1 cc w)++R.filterMap (J1 0 w)).head?=(R.filterMap (J1 0 w)).head?:=by rw[List.head?_append,hc]; rfl
    rw[this]
    simp only[if_true,Option.bind_some,e3]
    have:=fin _ hf
    simp only[if_true] at this
    exact this
 ·rw[if_neg q2]
  simp only[show (a.p == 2)=false from by simpa using q2,cond_false,Option.bind_some,if_true,e3]
  by_cases q1:a.p=1
  ·rw[if_pos q1]
   have:=fin (Kv (R.filterMap (J1 0 w))) (by rw[decide_eq_true q1,dt w hw.1])
   simp only[if_true] at this
   exact this
  ·rw[if_neg q1]
   have:=fin (R.filterMap (J1 0 w)).head? (by rw[decide_eq_false q1,Wu w hw.1]; rfl)
   simp only[if_true] at this
   exact this
end Go.Proofs.YtlaplcglpnlieaaGreat
end
