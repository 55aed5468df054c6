/- The first place for an object, as the document has it.; A scene: both heaps, both roots.; An object placed in both heaps.; A beginning in memory; its  -/
import Derived.Test.YtjbledomkmdkmaaGreatP31
set_option linter.unusedVariables false
set_option linter.unusedSimpArgs false
set_option linter.unusedSectionVars false
section
namespace Go.Proofs.YtjbledomkmdkmaaGreat
open Go Go.AX
noncomputable local instance qGS:A9:=Aw
local instance nGS:Kn:=⟨true⟩
variable {σ:Aa} {m:HM} {t:RM} {j:RI}
def xD (m:HM) (c:Nat):Nat→Nat→Option Nat
 | 0,_=>none
 | n+1,x=>if x+c≤m.bls.length then (if Om m.bls x c 0=none then some x else xD m c n (x+1)) else none
theorem oN {c:Nat}:∀ {n x b:Nat},xD m c n x=some b→x≤b∧b+c≤m.bls.length
 | 0,x,b,h=>by cases h
 | n+1,x,b,h=>by
   unfold xD at h
   split at h
   ·split at h
    ·cases h; exact ⟨Nat.le_refl _,by assumption⟩
    ·have:=oN h; omega
   ·cases h
theorem oP (k:Nat) (h:RG σ j m t) (hz:FZ m) {c x:Nat} (hx:x+c≤m.bls.length):∀ (n y f:Nat),y+n=c→n<f→Om m.bls x y 0=none →
  ∃ r:Nat,Je (k+2) f (Cq j) (c:Int) (x:Int) (y:Int) σ=some (.exit 2,[.int .i64 (r:Int)],σ)∧(r=c↔Om m.bls x c 0=none)∧r≤c
 | n,y,0,hy,hf,hu=>by omega
 | 0,y,f+1,hy,hf,hu=>by
   rw[Vz,Oy]
   try simp only[sw,Ad,Af,Ae]
   obtain rfl:y=c:=by omega
   exact ⟨y,by simp only[decide_eq_false (Int.lt_irrefl _),cond_false,Option.bind_some],⟨fun _=>hu,fun _=>rfl⟩,Nat.le_refl _⟩
 | n+1,y,f+1,hy,hf,hu=>by
   have hnt:=h.nt
   rw[Vz,Oy]
   try simp only[sw,Ad,Af,Ae]
   have w1:Cf ((x:Int)+(y:Int))=((x+y:Nat):Int):=Ak (by unfold AU; omega)
   have w2:Cf ((y:Int)+1)=((y+1:Nat):Int):=Ak (by unfold AU; omega)
   have es:CE m ((x+y:Nat):Int)=(m.bls.getD (x+y) (0,0)).1:=by
    unfold CE; rw[if_pos (by omega),Int.toNat_natCast]
   simp only[decide_eq_true (show (y:Int)<(c:Int) by omega),cond_true,w1,kF k h,es,Option.bind_some,Aj]
   by_cases q:(m.bls.getD (x+y) (0,0)).1=0
   ·have hu':Om m.bls x (y+1) 0=none:=by
     rw[dP hz] at hu ⊢
     intro c' c1 c2
     by_cases q2:c'=y
     ·rw[q2]; exact q
     ·exact hu c' c1 (by omega)
    obtain ⟨r,e1,e2,e3⟩:=oP k h hz hx n (y+1) f (by omega) (by omega) hu'
    exact ⟨r,by simp only[show ((m.bls.getD (x+y) (0,0)).1 == 0)=true from by simpa using q,cond_true,w2,e1],e2,e3⟩
   ·refine ⟨y,by simp only[show ((m.bls.getD (x+y) (0,0)).1 == 0)=false from by simpa using q,cond_false],⟨fun hh=>by omega,fun hh=>?_⟩,by omega⟩
    rw[dP hz] at hh
    exact absurd (hh y (by omega) (by omega)) q
theorem oO (k:Nat) (hk:5000≤k) (h:RG σ j m t) (hz:FZ m) {c:Nat} (hc:c≤100):∀ (n x f:Nat),m.bls.length<x+n→x≤200→n<f →
  Jd (k+2) f (Cq j) (c:Int) (x:Int) σ=some (match xD m c n x with | some b=>(.ret,[.int .i64 (b:Int)],σ) | none=>(.exit 0,[],σ))
 | n,x,0,hx,hx2,hf=>by omega
 | n,x,f+1,hx,hx2,hf=>by
   have hnt:=h.nt
   have w1:Cf ((x:Int)+(c:Int))=((x+c:Nat):Int):=Ak (by unfold AU; omega)
   have w2:Cf ((x:Int)+1)=((x+1:Nat):Int):=Ak (by unfold AU; omega)
   have eb:CF (k+2) (Cq j) σ=_:=gJ k h
   rw[gq,TD]
   try simp only[sw,Ad,Af,Ae]
   simp only[eb,Option.bind_some,Aj,w1]
   by_cases q:x+c≤m.bls.length
   ·obtain ⟨n,rfl⟩:∃ n',n=n'+1:=⟨n-1,by omega⟩
    obtain ⟨r,e1,e2,e3⟩:=oP k h hz q c 0 (k+2) (by omega) (by omega) rfl
    rw[show ((0:Nat):Int)=0 from rfl] at e1
    simp only[decide_eq_true (show ((x+c:Nat):Int)≤((m.bls.length:Nat):Int) by omega),cond_true,e1,Option.bind_some,if_true,FR,xD,if_pos q,w2]
    by_cases q2:Om m.bls x c 0=none
    ·rw[if_pos q2,show ((r:Int) == (c:Int))=true from by have:=e2.2 q2; simp[this]]; rfl
    ·rw[if_neg q2,show ((r:Int) == (c:Int))=false from by rw[beq_eq_false_iff_ne]; intro hh; exact q2 (e2.1 (by omega))]
     simp only[cond_false]
     exact oO k hk h hz hc n (x+1) f (by omega) (by omega) (by omega)
   ·have z:xD m c n x=none:=by
     cases n with
     | zero=>rfl
     | succ n=>rw[xD,if_neg q]
    simp only[decide_eq_false (show ¬ ((x+c:Nat):Int)≤((m.bls.length:Nat):Int) by omega),cond_false,z]
theorem yB (k:Nat) (hk:5000≤k) (h:RG σ j m t) (hz:FZ m) {c:Nat} (hc:c≤100):La (k+3) (Cq j) (c:Int) σ=some (.int .i64 (match xD m c m.bls.length 1 with | some b=>(b:Int) | none=>0),σ):=by
 have hnt:=h.nt
 have e:=oO k hk h hz hc m.bls.length 1 (k+2) (by omega) (by omega) (by omega)
 rw[show ((1:Nat):Int)=1 from rfl] at e
 rw[mI,Zo]
 try simp only[sw,Ad,Af,Ae]
 simp only[e,Option.bind_some]
 cases xD m c m.bls.length 1 with
 | none=>simp only[if_true]
 | some b=>simp only[show (Dh.ret=Dh.exit 0)=False from by simp,if_false,if_true,FR]
theorem rN {b:Nat}:∀ (L:List Nat) (p:Nat),(∀ j ∈ L,32*b≤j∧j<32*b+32)→64*b≤p→(∀ g ∈ (Ku m L p).1,64*b≤g.1∧g.1<64*b+64)∧64*b≤(Ku m L p).2
 | [],p,_,hp=>⟨(fun g hg=>by cases hg),hp⟩
 | j::L,p,hL,hp=>by
   obtain ⟨h1,h2⟩:=hL j List.mem_cons_self
   obtain ⟨g1,g2⟩:=rN L (2*j+sz m j) (fun y hy=>hL y (List.mem_cons_of_mem _ hy)) (by omega)
   refine ⟨fun g hg=>?_,g2⟩
   unfold Ku at hg
   rcases List.mem_append.1 hg with hg | hg
   ·unfold UD at hg
    split at hg
    ·rw[List.mem_singleton.1 hg]; dsimp only; omega
    ·cases hg
   ·exact g1 g hg
theorem Aay {b:Nat} (hb:b<m.bls.length):∀ g ∈ Yo m (b:Int),64*b≤g.1∧g.1<64*b+64:=by
 intro g hg
 unfold Yo at hg
 split at hg
 rotate_left
 ·cases hg
 rw[Int.toNat_natCast] at hg
 unfold zf at hg
 obtain ⟨h1,h2⟩:=rN (m:=m) (b:=b) (FP m (32*b) 32) (64*b) (fun j hj=>by have:=VN.1 hj; omega) (Nat.le_refl _)
 rcases List.mem_append.1 hg with hg | hg
 ·exact h1 g hg
 ·unfold UD at hg
  split at hg
  ·rw[List.mem_singleton.1 hg]; dsimp only; omega
  ·cases hg
def gpL (w:Int):List (Nat × Nat)→Option Nat
 | []=>none
 | g::l=>if (g.2:Int)≥w then some g.1 else gpL w l
def gpF (m:HM) (w sp:Int):Nat→Nat→Option Nat
 | 0,_=>none
 | n+1,b=>if CE m (b:Int)=1∧Rl m (b:Int)=sp then (match gpL w (Yo m (b:Int)) with | some a=>some a | none=>gpF m w sp n (b+1)) else gpF m w sp n (b+1)
theorem zg {w:Int}:∀ {l:List (Nat × Nat)} {a:Nat},gpL w l=some a → ∃ g ∈ l,g.1=a
 | [],a,h=>by cases h
 | g::l,a,h=>by
   unfold gpL at h
   split at h
   ·cases h; exact ⟨g,List.mem_cons_self,rfl⟩
   ·obtain ⟨g',h1,h2⟩:=zg h
    exact ⟨g',List.mem_cons_of_mem _ h1,h2⟩
theorem oQ {w sp:Int}:∀ {n b a:Nat},gpF m w sp n b=some a→b+n≤m.bls.length→CE m (((a/64:Nat)):Int)=1∧a<64*m.bls.length
 | 0,b,a,h,_=>by cases h
 | n+1,b,a,h,hb=>by
   unfold gpF at h
   split at h
   ·rename_i hc
    split at h
    ·rename_i a' he
     cases h
     obtain ⟨g,hg,rfl⟩:=zg he
     obtain ⟨p1,p2⟩:=Aay (show b<m.bls.length by omega) g hg
     rw[show g.1/64=b from by omega]
     exact ⟨hc.1,by omega⟩
    ·exact oQ h (by omega)
   ·exact oQ h (by omega)
theorem Ahe {s:Ce} {l:List (Nat × Nat)} (h:EM BI 2 σ s l.length (IU l)) {x:Nat} (hx:x<l.length):∃ b,s.1=some ⟨b,0,none⟩∧Dg .i64 σ b (x*2)=some ((l.getD x (0,0)).1:Int)∧Dg .i64 σ b (x*2+1)=some ((l.getD x (0,0)).2:Int):=by
 rcases h with ⟨h,_⟩ | ⟨b,rfl,_,_,hc⟩
 ·omega
 ·obtain ⟨h1,h2⟩:=pD l x hx
  exact ⟨b,rfl,by simp only[Dg,Gi,hc,h1,Option.bind_some,Aj],by simp only[Dg,Gi,hc,h2,Option.bind_some,Aj]⟩
theorem qX (k:Nat) {h0:Nat} {rr d c:Int} {T:TypeId} {sl:Ce} {l:List (Nat × Nat)} (hl:l.length≤1000):∀ (n x f:Nat) (σ:Aa),EM BI 2 σ sl l.length (IU l)→σ[h0]?=some (.cells [.int .i64 rr,.int .i64 d,.int .i64 c] T true)→x+n=l.length→n<f →
  ∃ τ,Ko (k+2) f h0 sl.1 l.length l.length (x:Int) σ=some (match gpL (words rr d c) (l.drop x) with | some a=>(.ret,[.int .i64 (a:Int),.bool true],σ++τ) | none=>(.exit 2,[],σ++τ))
 | n,x,0,σ,h,hb,hx,hf=>by omega
 | 0,x,f+1,σ,h,hb,hx,hf=>by
   rw[WD,Qv]
   simp only[sw,Ad,Af,Ae,decide_eq_false (show ¬ (x:Int)<((l.length:Nat):Int) by omega),cond_false]
   rw[List.drop_eq_nil_of_le (by omega)]
   exact ⟨[],by simp[gpL]⟩
 | n+1,x,f+1,σ,h,hb,hx,hf=>by
   obtain ⟨b,e,l1,l2⟩:=Ahe h (x:=x) (by omega)
   have qx:(0≤(x:Int)∧(x:Int)<((l.length:Nat):Int))=True:=eq_true (by omega)
   have w1:Cf ((x:Int)+1)=((x+1:Nat):Int):=Ak (by unfold AU; omega)
   have hd:l.drop x=l.getD x (0,0)::l.drop (x+1):=by
    rw[List.drop_eq_getElem_cons (by omega),List.getD_eq_getElem?_getD,List.getElem?_eq_getElem (by omega)]; rfl
   obtain ⟨b0,b1,b2⟩:=Md hb
   obtain ⟨τ,ew⟩:=Lf k rr d c σ
   have hbl:=h.lt ⟨b,0,none⟩ e
   have l1':Dg .i64 (σ++τ) b (x*2)=some ((l.getD x (0,0)).1:Int):=by rw[dI _ _ _ hbl]; exact l1
   obtain ⟨τ2,e2⟩:=qX k (h0:=h0) (rr:=rr) (d:=d) (c:=c) (T:=T) (sl:=sl) hl n (x+1) f (σ++τ) (h.app τ) (by rw[List.getElem?_append_left (Al hb)]; exact hb) (by omega) (by omega)
   rw[e] at e2
   rw[WD,Qv,hd,gpL]
   simp only[sw,Ad,Af,Ae,decide_eq_true (show (x:Int)<((l.length:Nat):Int) by omega),cond_true,qx,if_true,e,Option.bind_some,Int.toNat_natCast,Nat.zero_add,Nat.add_zero,l2,b0,b1,b2,ew,Aj,w1,l1']
   by_cases q:((l.getD x (0,0)).2:Int)≥words rr d c
   ·rw[if_pos q,decide_eq_true q]
    exact ⟨τ,rfl⟩
   ·rw[if_neg q,decide_eq_false q]
    simp only[cond_false,e2,List.append_assoc]
    exact ⟨τ++τ2,rfl⟩
theorem qW (k:Nat) (hk:5000≤k) {h0:Nat} {rr d c sp:Int} {T:TypeId}:∀ (n x f:Nat) (σ:Aa),RG σ j m t→σ[h0]?=some (.cells [.int .i64 rr,.int .i64 d,.int .i64 c] T true)→x+n=m.bls.length→n<f →
  ∃ τ,Iq (k+4) f (Cq j) sp h0 (x:Int) σ=some (match gpF m (words rr d c) sp n x with | some a=>(.ret,[.int .i64 (a:Int),.bool true],σ++τ) | none=>(.exit 0,[],σ++τ))
 | n,x,0,σ,h,hb,hx,hf=>by omega
 | 0,x,f+1,σ,h,hb,hx,hf=>by
   have eB:CF (k+4) (Cq j) σ=_:=gJ (k+2) h
   rw[WC,Qu]
   simp only[sw,Ad,Af,Ae,eB,Option.bind_some,Aj,decide_eq_false (show ¬ (x:Int)<((m.bls.length:Nat):Int) by omega),cond_false]
   exact ⟨[],by simp[gpF]⟩
 | n+1,x,f+1,σ,h,hb,hx,hf=>by
   have hnt:=h.nt
   have w1:Cf ((x:Int)+1)=((x+1:Nat):Int):=Ak (by unfold AU; omega)
   have eB:CF (k+4) (Cq j) σ=_:=gJ (k+2) h
   have eS:Cy (k+4) (Cq j) (x:Int) σ=_:=kF (k+2) h (x:Int)
   have eP:Fu (k+4) (Cq j) (x:Int) σ=_:=Abq (k+2) h (x:Int)
   rw[WC,Qu,gpF]
   simp only[sw,Ad,Af,Ae,eB,Option.bind_some,Aj,decide_eq_true (show (x:Int)<((m.bls.length:Nat):Int) by omega),cond_true,eS,w1]
   have skip:∀ τ,∃ τ',Iq (k+4) f (Cq j) sp h0 ((x+1:Nat):Int) (σ++τ)=some (match gpF m (words rr d c) sp n (x+1) with | some a=>(.ret,[.int .i64 (a:Int),.bool true],σ++τ') | none=>(.exit 0,[],σ++τ')):=fun τ=>by
    obtain ⟨τ2,e2⟩:=qW k hk (h0:=h0) (rr:=rr) (d:=d) (c:=c) (sp:=sp) (T:=T) n (x+1) f (σ++τ) (h.app τ) (by rw[List.getElem?_append_left (Al hb)]; exact hb) (by omega) (by omega)
    exact ⟨τ++τ2,by rw[e2,List.append_assoc]⟩
   have skip0:=skip []
   rw[List.append_nil] at skip0
   have hcnd:((bif (CE m (x:Int) != 1) then some (true,σ) else (Fu (k+4) (Cq j) (x:Int) σ).bind fun r7=>(Ml .i64 r7.1).bind fun n8=>some (n8 != sp,r7.2)):Option (Bool × Aa))=some (!decide (CE m (x:Int)=1∧Rl m (x:Int)=sp),σ):=by
    by_cases q1:CE m (x:Int)=1
    ·rw[q1]
     simp only[bne_self_eq_false,cond_false,eP,Option.bind_some,Aj]
     by_cases q2:Rl m (x:Int)=sp
     ·rw[q2]; simp
     ·rw[decide_eq_false (fun hh=>q2 hh.2),bne_iff_ne.2 q2]; rfl
    ·rw[bne_iff_ne.2 q1,decide_eq_false (fun hh=>q1 hh.1)]; rfl
   rw[hcnd]
   simp only[Option.bind_some]
   by_cases q:CE m (x:Int)=1∧Rl m (x:Int)=sp
   rotate_left
   ·rw[if_neg q,decide_eq_false q]
    simp only[Bool.not_false,cond_true]
    exact skip0
   ·rw[if_pos q,decide_eq_true q]
    obtain ⟨τ,sl,eG,hs,_⟩:=Aet k hk h (x:Int)
    have hgl:=Aax m (x:Int)
    have f0:=hs.form
    have f1:sl.2.1=(Yo m (x:Int)).length:=by rw[f0]
    have f2:sl.2.2=(Yo m (x:Int)).length:=by rw[f0]
    obtain ⟨τ2,e2⟩:=qX (k+2) (h0:=h0) (rr:=rr) (d:=d) (c:=c) (T:=T) (sl:=sl) (l:=Yo m (x:Int)) (by omega) (Yo m (x:Int)).length 0 (k+4) (σ++τ) hs (by rw[List.getElem?_append_left (Al hb)]; exact hb) (by omega) (by omega)
    rw[show ((0:Nat):Int)=0 from rfl,List.drop_zero] at e2
    simp only[Bool.not_true,cond_false,eG,Option.bind_some,H7,f1,f2,e2]
    cases gpL (words rr d c) (Yo m (x:Int)) with
    | some a=>
      simp only[reduceCtorEq,if_false,if_true,zF,List.append_assoc]
      exact ⟨τ++τ2,rfl⟩
    | none=>
      simp only[if_true,List.append_assoc]
      exact skip (τ++τ2)
theorem Aik (k:Nat) (hk:5000≤k) (h:RG σ j m t) (rr d c sp:Int):∃ τ,SS (k+5) (Cq j) rr d c sp σ=some (match gpF m (words rr d c) sp (m.bls.length-1) 1 with | some a=>.tuple #[.int .i64 (a:Int),.bool true] | none=>.tuple #[.int .i64 0,.bool false],σ++τ):=by
 have hnb:=h.nb
 have hnt:=h.nt
 obtain ⟨B,hB⟩:∃ B,A6.cells [.int .i64 rr,.int .i64 d,.int .i64 c] Ag true=B:=⟨_,rfl⟩
 obtain ⟨τ,e⟩:=qW k hk (h0:=σ.length) (rr:=rr) (d:=d) (c:=c) (sp:=sp) (T:=Ag) (m.bls.length-1) 1 (k+4) (σ++[B]) (h.app _) (by rw[← hB]; simp) (by omega) (by omega)
 rw[show ((1:Nat):Int)=1 from rfl] at e
 refine ⟨[B]++τ, ?_⟩
 rw[oB,bQ]
 simp only[sw,Ad,Af,Ae,AM,hB,e,Option.bind_some]
 cases gpF m (words rr d c) sp (m.bls.length-1) 1 with
 | none=>simp only[if_true,List.append_assoc]
 | some a=>simp only[reduceCtorEq,if_false,if_true,zF,List.append_assoc]
def Un (rr d c:Int):Nat:=((words rr d c+63).tdiv 64).toNat
def firstM (m:HM) (rr d c sp:Int):(Int × Bool) × HM:=
 if words rr d c>32 then (match xD m (Un rr d c) m.bls.length 1 with
  | none=>((0,false),m)
  | some b=>(((64*b:Nat):Int),(De m (b:Int) (Un rr d c:Int) 2 sp 3 sp).1 == 0,(De m (b:Int) (Un rr d c:Int) 2 sp 3 sp).2) |> fun x=>((x.1,x.2.1),x.2.2))
 else match gpF m (words rr d c) sp (m.bls.length-1) 1 with
  | some a=>(((a:Int),true),m)
  | none=>match xD m 1 m.bls.length 1 with
    | none=>((0,false),m)
    | some b=>((((64*b:Nat):Int),(De m (b:Int) 1 1 sp 0 0).1 == 0),(De m (b:Int) 1 1 sp 0 0).2)
theorem zn (rr d c:Int):(words rr d c+63).tdiv 64=(Un rr d c:Int)∧Un rr d c≤4∧(words rr d c>32→1≤Un rr d c):=by
 obtain ⟨h0,h1⟩:=UO rr d c
 unfold Un
 rw[Int.tdiv_eq_ediv_of_nonneg (by omega)]
 omega
theorem Ace (k:Nat) (hk:5000≤k) (h:RG σ j m t) (hP:OI m) (hz:FZ m) (rr d c sp:Int):Fx (L6 (k+6) (Cq j) rr d c sp σ) σ j (.tuple #[.int .i64 (firstM m rr d c sp).1.1,.bool (firstM m rr d c sp).1.2]) (firstM m rr d c sp).2:=by
 have hnt:=h.nt
 obtain ⟨n1,n2,n3⟩:=zn rr d c
 obtain ⟨B,hB⟩:∃ B,A6.cells [.int .i64 rr,.int .i64 d,.int .i64 c] Ag true=B:=⟨_,rfl⟩
 have bl:∀ τ,Dg .i64 (σ++[B]++τ) σ.length 0=some rr∧Dg .i64 (σ++[B]++τ) σ.length 1=some d∧Dg .i64 (σ++[B]++τ) σ.length 2=some c:=fun τ=>by
  rw[← hB]
  exact ⟨by rw[GK]; rfl,by rw[GK]; rfl,by rw[GK]; rfl⟩
 obtain ⟨x0,x1,x2⟩:=bl []
 rw[List.append_nil] at x0 x1 x2
 obtain ⟨τ1,eL⟩:=kE (k+2) rr d c (σ++[B])
 have eL':Fk (k+5) rr d c (σ++[B])=_:=eL
 obtain ⟨y0,y1,y2⟩:=bl τ1
 have hg1:=(h.app [B]).app τ1
 have run:∀ {mm:Option (Value × Aa)} {v:Value} {m':HM} (τ:Aa),Fx mm (σ++[B]++τ1++τ) j v m'→Fx mm σ j v m':=fun τ hg=>by
  obtain ⟨σ',j',t',e,r1,r2,r3,r4⟩:=hg
  exact ⟨σ',j',t',e,r1,r2,r3,(((Ib.app j σ [B]).trans (Ib.app j _ τ1)).trans (Ib.app j _ τ)).trans r4⟩
 rw[kh,Xw]
 simp only[sw,Ad,Af,Ae,AM,hB,Nat.zero_add,Nat.reduceAdd,x0,x1,x2,Option.bind_some,eL',Ar]
 unfold firstM
 by_cases q:words rr d c>32
 ·rw[if_pos q,decide_eq_true q]
  obtain ⟨τ2,eN⟩:=pq (k+2) rr d c (σ++[B]++τ1)
  have eN':Fq (k+5) rr d c (σ++[B]++τ1)=_:=eN
  rw[n1] at eN'
  have hg2:=hg1.app τ2
  have eF:La (k+5) (Cq j) (Un rr d c:Int) (σ++[B]++τ1++τ2)=_:=yB (k+2) (by omega) hg2 hz (by omega)
  simp only[cond_true,y0,y1,y2,Option.bind_some,eN',Aj,eF]
  cases hf:xD m (Un rr d c) m.bls.length 1 with
  | none=>
    simp only[show ((0:Int) == 0)=true from rfl,cond_true]
    exact run τ2 (Fx.Tw hg2 hP rfl)
  | some b=>
    obtain ⟨f1,f2⟩:=oN hf
    have hC:Fx (Eg (k+5) (Cq j) (b:Int) (Un rr d c:Int) sp (σ++[B]++τ1++τ2)) (σ++[B]++τ1++τ2) j _ _:=po (k+3) (by omega) hg2 hP hz (b:Int) (Un rr d c:Int) sp (by unfold AU; omega) (by unfold AU; omega)
    obtain ⟨σ',j',t',e,r1,r2,r3,r4⟩:=hC
    have w1:Cf ((b:Int)*64)=((64*b:Nat):Int):=by rw[Ak (by unfold AU; omega)]; omega
    simp only[show ((b:Int) == 0)=false from by rw[beq_eq_false_iff_ne]; omega,cond_false,e,Option.bind_some,Aj,w1]
    exact run τ2 ⟨σ',j',t',rfl,r1,r2,r3,r4⟩
 ·rw[if_neg q,decide_eq_false q]
  obtain ⟨τ2,eG⟩:=Aik k hk hg1 rr d c sp
  have hg2:=hg1.app τ2
  simp only[cond_false,y0,y1,y2,Option.bind_some,eG]
  cases hgp:gpF m (words rr d c) sp (m.bls.length-1) 1 with
  | some a=>
    simp only[ji,cond_true]
    exact run τ2 (Fx.Tw hg2 hP rfl)
  | none=>
    have eF:La (k+5) (Cq j) ((1:Nat):Int) (σ++[B]++τ1++τ2)=_:=yB (k+2) (by omega) hg2 hz (c:=1) (by omega)
    rw[show ((1:Nat):Int)=1 from rfl] at eF
    simp only[ji,cond_false,eF,Option.bind_some,Aj]
    cases hf:xD m 1 m.bls.length 1 with
    | none=>
      simp only[show ((0:Int) == 0)=true from rfl,cond_true]
      exact run τ2 (Fx.Tw hg2 hP rfl)
    | some b=>
      obtain ⟨f1,f2⟩:=oN hf
      have hC:Fx (G4 (k+5) (Cq j) (b:Int) sp (σ++[B]++τ1++τ2)) (σ++[B]++τ1++τ2) j _ _:=Abo (k+3) hg2 hP hz (b:Int) sp
      obtain ⟨σ',j',t',e,r1,r2,r3,r4⟩:=hC
      have w1:Cf ((b:Int)*64)=((64*b:Nat):Int):=by rw[Ak (by unfold AU; omega)]; omega
      simp only[show ((b:Int) == 0)=false from by rw[beq_eq_false_iff_ne]; omega,cond_false,e,Option.bind_some,Aj,w1]
      exact run τ2 ⟨σ',j',t',rfl,r1,r2,r3,r4⟩
end Go.Proofs.YtjbledomkmdkmaaGreat
end
section
namespace Go.Proofs.YtjbledomkmdkmaaGreat
open Go Go.AX
noncomputable local instance qGT:A9:=Aw
local instance nGT:Kn:=⟨true⟩
variable {σ:Aa} {m mr:HM} {t:RM} {r rq:K4}
structure Sv where
 sb:Nat
 i:DD
 j:RI
 p:PI
 q:QI
def Sv.Ls (I:Sv):List (List Nat):=[I.i.l,I.j.l,I.p.l,I.q.l,[I.sb]]
def Sv.fl (I:Sv):List Nat:=I.Ls.flatten
abbrev bq (I:Sv):Option Addr:=some ⟨I.sb,0,none⟩
def JX (I:Sv):List Value:=[.pointer (AV I.i),.pointer (Nc I.p),.pointer (Cq I.j),.pointer (Y0 I.q)]
structure Sn (σ:Aa) (I:Sv) (m mr:HM) (t:RM) (r rq:K4):Prop where
 cell:σ[I.sb]?=some (.cells (JX I) BH true)
 h:An σ I.i m
 mo:MK m
 g:RG σ I.j mr t
 P:OI mr
 mor:MK mr
 rt:Mj σ I.p r
 rq:Nw σ I.q rq
 fp:Fp σ I.Ls
variable {I:Sv}
theorem Sn.app (S:Sn σ I m mr t r rq) (τ:Aa):Sn (σ++τ) I m mr t r rq:=
 ⟨by rw[List.getElem?_append_left (Al S.cell)]; exact S.cell,S.h.app τ,S.mo,S.g.app τ,S.P,S.mor,S.rt.app τ,S.rq.app τ,S.fp.app τ⟩
theorem Sn.K2 (S:Sn σ I m mr t r rq):L8 σ I.sb 0=some (AV I.i):=by simp[L8,Gi,S.cell,JX,NJ]
theorem Sn.GJ (S:Sn σ I m mr t r rq):L8 σ I.sb 1=some (Nc I.p):=by simp[L8,Gi,S.cell,JX,NJ]
theorem Sn.kr (S:Sn σ I m mr t r rq):L8 σ I.sb 2=some (Cq I.j):=by simp[L8,Gi,S.cell,JX,NJ]
theorem Sn.uu (S:Sn σ I m mr t r rq):L8 σ I.sb 3=some (Y0 I.q):=by simp[L8,Gi,S.cell,JX,NJ]
theorem Sn.hs (S:Sn σ I m mr t r rq) {mm:Option (Value × Aa)} {v:Value} {m':HM} (hA:∃ σ1,mm=some (v,σ1)∧An σ1 I.i m'∧Bu I.i σ σ1) (hM:MK m'):∃ σ',mm=some (v,σ')∧Sn σ' I m' mr t r rq∧Mv I.fl I.fl σ σ'∧σ'[I.sb]?=σ[I.sb]?:=by
 obtain ⟨σ',e,h',k'⟩:=hA
 obtain ⟨f,k,mv⟩:=S.fp.step 0 (by simp[Sv.Ls]) (L':=I.i.l) k'.mv h'.lt
 have kk:=fun y hy hne q hq=>k y hy hne q hq
 have k4:=kk 4 (by simp[Sv.Ls]) (by decide) I.sb (by simp[Sv.Ls])
 exact ⟨σ',e,⟨k4.trans S.cell,h',hM,S.g.AG (kk 1 (by simp[Sv.Ls]) (by decide)) k'.len,S.P,S.mor,S.rt.AG (kk 2 (by simp[Sv.Ls]) (by decide)),S.rq.AG (kk 3 (by simp[Sv.Ls]) (by decide)),f⟩,mv,k4⟩
theorem Sn.js (S:Sn σ I m mr t r rq) {mm:Option (Value × Aa)} {v:Value} {m':HM} (hg:Fx mm σ I.j v m') (hM:MK m'):∃ σ' j' t',mm=some (v,σ')∧Sn σ' { I with j:=j' } m m' t' r rq∧Mv I.fl ({ I with j:=j' }:Sv).fl σ σ'∧σ'[I.sb]?=σ[I.sb]?:=by
 obtain ⟨σ',j',t',e,r',s',p',k'⟩:=hg
 obtain ⟨f,k,mv⟩:=S.fp.step 1 (by simp[Sv.Ls]) (L':=j'.l) k'.mv r'.lt
 have k4:=k 4 (by simp[Sv.Ls]) (by decide) I.sb (by simp[Sv.Ls])
 have hc:JX { I with j:=j' }=JX I:=by unfold JX Cq; rw[k'.hb]
 exact ⟨σ',j',t',e,⟨by rw[hc]; exact k4.trans S.cell,S.h.AG (k 0 (by simp[Sv.Ls]) (by decide)),S.mo,⟨r',s',hM.inv,hM.inv2,hM.sh.wl,hM.nb,hM.nt⟩,p',hM,S.rt.AG (k 2 (by simp[Sv.Ls]) (by decide)),S.rq.AG (k 3 (by simp[Sv.Ls]) (by decide)),f⟩,mv,k4⟩
theorem Sn.ps (S:Sn σ I m mr t r rq) {σ':Aa} {p':PI} {r':K4} (h':Mj σ' p' r') (hm:Mv I.p.l p'.l σ σ') (hb:p'.rb=I.p.rb):Sn σ' { I with p:=p' } m mr t r' rq∧Mv I.fl ({ I with p:=p' }:Sv).fl σ σ'∧σ'[I.sb]?=σ[I.sb]?:=by
 obtain ⟨f,k,mv⟩:=S.fp.step 2 (by simp[Sv.Ls]) (L':=p'.l) hm h'.lt
 have k4:=k 4 (by simp[Sv.Ls]) (by decide) I.sb (by simp[Sv.Ls])
 have hc:JX { I with p:=p' }=JX I:=by unfold JX Nc; rw[hb]
 exact ⟨⟨by rw[hc]; exact k4.trans S.cell,S.h.AG (k 0 (by simp[Sv.Ls]) (by decide)),S.mo,S.g.AG (k 1 (by simp[Sv.Ls]) (by decide)) hm.len,S.P,S.mor,h',S.rq.AG (k 3 (by simp[Sv.Ls]) (by decide)),f⟩,mv,k4⟩
theorem Sn.qs (S:Sn σ I m mr t r rq) {σ':Aa} {q':QI} {r':K4} (h':Nw σ' q' r') (hm:Mv I.q.l q'.l σ σ') (hb:q'.qb=I.q.qb):Sn σ' { I with q:=q' } m mr t r r'∧Mv I.fl ({ I with q:=q' }:Sv).fl σ σ'∧σ'[I.sb]?=σ[I.sb]?:=by
 obtain ⟨f,k,mv⟩:=S.fp.step 3 (by simp[Sv.Ls]) (L':=q'.l) hm h'.lt
 have k4:=k 4 (by simp[Sv.Ls]) (by decide) I.sb (by simp[Sv.Ls])
 have hc:JX { I with q:=q' }=JX I:=by unfold JX Y0; rw[hb]
 exact ⟨⟨by rw[hc]; exact k4.trans S.cell,S.h.AG (k 0 (by simp[Sv.Ls]) (by decide)),S.mo,S.g.AG (k 1 (by simp[Sv.Ls]) (by decide)) hm.len,S.P,S.mor,S.rt.AG (k 2 (by simp[Sv.Ls]) (by decide)),h',f⟩,mv,k4⟩
theorem Z7 {b:Nat} {σ σ':Aa} {ρ:Type} (h:σ'[b]?=σ[b]?) (x:Option ρ):Oe (some ⟨b,0,none⟩) σ σ' x=x:=by
 have:@A9.k Aw σ σ' b=true:=by
  unfold Aw
  simpa using h
 unfold Oe
 simp only[this,cond_true]
def SG (mm:Option (Value × Aa)) (σ:Aa) (I:Sv) (v:Value) (m':HM) (r':K4):Prop:=
 ∃ σ' I' t',mm=some (v,σ')∧Sn σ' I' m' m' t' r' r'∧Mv I.fl I'.fl σ σ'∧I'.sb=I.sb
theorem uz (k:Nat) (S:Sn σ I m mr t r rq) {n:Nat} (hn:n<100):Bq (k+1) (bq I) (n:Int) σ=some (.int .i64 (my mr n),σ):=by
 have hal:=S.g.Akc
 have hol:=S.g.ol
 rw[ef,RN]
 simp only[sw,Ad,Af,Ae,show ((n:Int) == -77)=false from by rw[beq_eq_false_iff_ne]; omega,cond_false,decide_eq_false (show ¬ (n:Int)≥1000 by omega),decide_eq_false (show ¬ (n:Int)<0 by omega),decide_eq_false (show ¬ (n:Int)≥100 by omega),Option.bind_some,Nat.zero_add,S.kr,S.g.at_.GJ]
 unfold my
 by_cases h0:FB mr=[]
 ·have:t.ob.length=0:=by rw[hal,h0]; rfl
  rw[if_pos h0,this]
  rfl
 ·rw[if_neg h0]
  have hp:0<t.ob.length:=by rw[hal]; exact List.length_pos_iff.2 h0
  rw[show (((t.ob.length:Nat):Int) == 0)=false from by rw[beq_eq_false_iff_ne]; omega]
  have hx:n % t.ob.length<t.ob.length:=Nat.mod_lt _ hp
  obtain ⟨y,hy,hyl,hs,ho⟩:=S.g.drop hx
  obtain ⟨b,eb,_,L⟩:=S.g.at_.obj hx
  have L:=L (by rw[S.g.at_.ol]; exact hx)
  have hadr:t.ob[n % t.ob.length].addr=((2*y:Nat):Int):=by
   rw[List.getElem?_eq_getElem hx] at ho
   rw[Option.some.inj ho]; rfl
  simp only[cond_false,S.kr,S.g.at_.GJ,Option.bind_some]
  rw[if_neg (by omega),fX,if_pos (by omega)]
  simp only[eb,Option.bind_some,Int.toNat_natCast,Nat.zero_add,Nat.add_zero,L.l0,hadr]
  rw[← hal,Zi _ (by rw[← hal]; exact hx)]
  have:(FB mr)[n % t.ob.length]'(by rw[← hal]; exact hx)=y:=by
   rw[List.getElem?_eq_getElem (by rw[← hal]; exact hx)] at hy
   exact Option.some.inj hy
  rw[this]
theorem uy {n:Nat} (hM:MK mr):AU (my mr n)∧0≤my mr n:=by
 have hnt:=hM.nt
 rcases Adj mr n with h | h
 ·rw[h]; exact ⟨by unfold AU; omega,Int.le_refl _⟩
 ·obtain ⟨j,e,hs⟩:=Ek h
  have:=hs.1
  rw[e]; exact ⟨by unfold AU; omega,by omega⟩
theorem Afs (k:Nat) (hk:5000≤k) (S:Sn σ I m m t r r) (a x v:Int) (ha:AU a) (hv:AU v):SG (Io (k+8) (bq I) a x v σ) σ I (.bool true) (EK m a x v).2 r:=by
 have hM:=S.mo.setRef a x v
 have e1:Fx (Gb (k+7) (Cq I.j) a x v σ) σ I.j _ _:=yc (k+3) (by omega) S.g S.P a x v
 obtain ⟨σ1,j',t',e1,S1,m1,b1⟩:=S.js e1 hM
 obtain ⟨σ2,e2,S2,m2,b2⟩:=S1.hs (kZ k S1.h S.mo.inv a x v ha hv) hM
 refine ⟨σ2,_,t', ?_,S2,m1.trans m2,rfl⟩
 rw[aM,OQ]
 have l0:L8 σ1 I.sb 0=some (AV I.i):=S1.K2
 simp only[sw,Ad,Af,Ae,Option.bind_some,Nat.zero_add,Nat.add_zero,S.kr,e1,Aj,Z7 b1,l0,e2,beq_self_eq_true]
theorem zK (k:Nat) (hk:5000≤k) (S:Sn σ I m m t r r) (a:Int) (ha:AU a):∃ σ1 σ2 j' t',FJ (k+12) (Cq I.j) a σ=some (.int .i64 (Kv m a).1,σ1)∧σ1[I.sb]?=σ[I.sb]?∧L8 σ1 I.sb 0=some (AV I.i)∧DK (k+12) (AV I.i) a σ1=some (.int .i64 (Kv m a).1,σ2)∧Sn σ2 { I with j:=j' } (Kv m a).2 (Kv m a).2 t' r r∧Mv I.fl ({ I with j:=j' }:Sv).fl σ σ2:=by
 have hM:=S.mo.kill a
 have e1:Fx (FJ (k+12) (Cq I.j) a σ) σ I.j _ _:=Aeu (k+8) (by omega) S.g S.P S.mo.sh a
 obtain ⟨σ1,j',t',e1,S1,m1,b1⟩:=S.js e1 hM
 obtain ⟨σ2,e2,S2,m2,b2⟩:=S1.hs (qY k S1.h S.mo.inv a ha) hM
 exact ⟨σ1,σ2,j',t',e1,b1,S1.K2,e2,S2,m1.trans m2⟩
theorem Acq (k:Nat) (hk:5000≤k) (S:Sn σ I m m t r r) (a:Int) (ha:AU a):∃ σ1 σ2 j' t',G5 (k+12) (Cq I.j) a σ=some (.int .i64 (QD m a 1).1,σ1)∧σ1[I.sb]?=σ[I.sb]?∧L8 σ1 I.sb 0=some (AV I.i)∧IY (k+12) (AV I.i) a σ1=some (.int .i64 (QD m a 1).1,σ2)∧Sn σ2 { I with j:=j' } (QD m a 1).2 (QD m a 1).2 t' r r∧Mv I.fl ({ I with j:=j' }:Sv).fl σ σ2:=by
 have hM:=S.mo.lU a 1
 have e1:Fx (G5 (k+12) (Cq I.j) a σ) σ I.j _ _:=Ag7 (k+7) (by omega) S.g S.P S.mo.sh a
 obtain ⟨σ1,j',t',e1,S1,m1,b1⟩:=S.js e1 hM
 obtain ⟨σ2,e2,S2,m2,b2⟩:=S1.hs (Acr (k+1) S1.h a ha) hM
 exact ⟨σ1,σ2,j',t',e1,b1,S1.K2,e2,S2,m1.trans m2⟩
def NK (mu n:Nat):Int × Nat × Nat:=if n % 40<24 then (0,n % 40 % mu,n % 40/4) else if n % 40<36 then (1,0,n % 40-24) else (2,0,n % 40-36)
theorem Adc (k:Nat) (S:Sn σ I m mr t r rq) {n:Nat} (hn:n<1000000):∃ τ,Ga (k+3) (bq I) (n:Int) σ=some (.agg #[.int .i64 (NK rq.mu n).1,.int .i64 ((NK rq.mu n).2.1:Int),.int .i64 ((NK rq.mu n).2.2:Int)],σ++τ):=by
 have hm1:=S.rq.ok.m1
 have hm4:=S.rq.ok.m4
 have S1:=S.app [A6.cells [.int .i64 0,.int .i64 0,.int .i64 0] AS true]
 have emu:EC (k+2) (Y0 I.q) (σ++[A6.cells [.int .i64 0,.int .i64 0,.int .i64 0] AS true])=_:=tR k S1.rq
 have mx:(if (0:Int)>(n:Int) then (0:Int) else (n:Int))=(n:Int):=if_neg (by omega)
 have e40:(n:Int).tmod 40=((n % 40:Nat):Int):=fX n 40
 have hN:∀ x y z:Value,ZA (σ++[A6.cells [x,y,z] AS true]) σ.length 0 3=some [x,y,z]:=fun x y z=>by simp[ZA]
 rw[Zy,N3]
 simp only[sw,Ad,Af,Ae,AM,mx,e40,show ((40:Int)=0)=False from by simp,if_false]
 unfold NK
 by_cases q1:n % 40<24
 ·rw[if_pos q1,decide_eq_true (show ((n % 40:Nat):Int)<24 by omega)]
  have e1:((n % 40:Nat):Int).tmod (rq.mu:Int)=((n % 40 % rq.mu:Nat):Int):=fX _ _
  have e2:((n % 40:Nat):Int).tdiv 4=((n % 40/4:Nat):Int):=sJ _ 4
  have w2:Cf ((n % 40/4:Nat):Int)=((n % 40/4:Nat):Int):=Ak (by unfold AU; omega)
  refine ⟨[A6.cells [.int .i64 0,.int .i64 ((n % 40 % rq.mu:Nat):Int),.int .i64 ((n % 40/4:Nat):Int)] AS true], ?_⟩
  simp only[cond_true,Option.bind_some,Nat.zero_add,S1.uu,emu,Aj]
  rw[if_neg (by omega),if_neg (by decide)]
  simp only[e1,e2,w2,Iv,Option.bind_some,hN]
  rfl
 ·rw[if_neg q1,decide_eq_false (show ¬ ((n % 40:Nat):Int)<24 by omega)]
  by_cases q2:n % 40<36
  ·rw[if_pos q2,decide_eq_true (show ((n % 40:Nat):Int)<36 by omega)]
   have w2:Cf (((n % 40:Nat):Int)-24)=((n % 40-24:Nat):Int):=by rw[Ak (by unfold AU; omega)]; omega
   refine ⟨[A6.cells [.int .i64 1,.int .i64 0,.int .i64 ((n % 40-24:Nat):Int)] AS true], ?_⟩
   simp only[cond_true,cond_false,w2,Iv,Option.bind_some,hN]
   rfl
  ·rw[if_neg q2,decide_eq_false (show ¬ ((n % 40:Nat):Int)<36 by omega)]
   have w2:Cf (((n % 40:Nat):Int)-36)=((n % 40-36:Nat):Int):=by rw[Ak (by unfold AU; omega)]; omega
   refine ⟨[A6.cells [.int .i64 2,.int .i64 0,.int .i64 ((n % 40-36:Nat):Int)] AS true], ?_⟩
   simp only[cond_false,w2,Iv,Option.bind_some,hN]
   rfl
def gR (r:K4) (n:Nat) (a:Int):K4:=if (NK r.mu n).1=2∧r.qu.length≤(NK r.mu n).2.2 then (VR r a).2 else (ju r (NK r.mu n).1 (NK r.mu n).2.1 (NK r.mu n).2.2 a).2
theorem Ae8 {r:K4} {n:Nat} {a v:Int} (h:v ∈ (gR r n a).all):v=a∨v ∈ r.all:=by
 unfold gR at h
 split at h
 ·exact ya h
 ·exact Abx h
theorem Afk (r:K4) (h:r.ok) (n:Nat) (hq:¬ ((NK r.mu n).1=2∧r.qu.length≤(NK r.mu n).2.2)):sQ r (NK r.mu n).1 (NK r.mu n).2.1 (NK r.mu n).2.2:=by
 have hm1:=h.m1
 unfold NK at hq ⊢
 unfold sQ
 split
 ·rename_i q1
  refine .inl ⟨rfl,Nat.mod_lt _ (by omega),by dsimp only; omega⟩
 ·rename_i q1
  rw[if_neg q1] at hq
  split
  ·rename_i q2
   exact .inr (.inl ⟨rfl,rfl,by dsimp only; omega⟩)
  ·rename_i q2
   rw[if_neg q2] at hq
   refine .inr (.inr ⟨rfl,rfl, ?_⟩)
   dsimp only at hq ⊢
   exact Nat.lt_of_not_le fun hh=>hq ⟨rfl,hh⟩
theorem Aiq (k:Nat) (S:Sn σ I m m t r r) {n:Nat} (hn:n<1000000) (a:Int) (ha:AU a):SG (Jt (k+5) (bq I) (n:Int) a σ) σ I (.bool true) m (gR r n a):=by
 obtain ⟨τ,eW⟩:=Adc (k+1) S hn
 have eW':Ga (k+4) (bq I) (n:Int) σ=_:=eW
 have hok:=S.rt.ok
 have hwo:=Afk r hok n
 unfold gR
 generalize NK r.mu n=W at eW' hwo
 obtain ⟨kk,mt,ix⟩:=W
 dsimp only at eW' hwo ⊢
 obtain ⟨B,hB⟩:∃ B,A6.cells [.int .i64 kk,.int .i64 (mt:Int),.int .i64 (ix:Int)] AS true=B:=⟨_,rfl⟩
 have S1:=(S.app τ).app [B]
 have m1:Mv I.fl I.fl σ (σ++τ++[B]):=(Mv.app _ _ _).trans (Mv.app _ _ _)
 have bl:∀ τ',Dg .i64 (σ++τ++[B]++τ') (σ++τ).length 0=some kk∧Dg .i64 (σ++τ++[B]++τ') (σ++τ).length 1=some (mt:Int)∧Dg .i64 (σ++τ++[B]++τ') (σ++τ).length 2=some (ix:Int):=fun τ'=>by
  rw[← hB]
  exact ⟨by rw[GK]; rfl,by rw[GK]; rfl,by rw[GK]; rfl⟩
 obtain ⟨x0,x1,x2⟩:=bl []
 rw[List.append_nil] at x0 x1 x2
 obtain ⟨sq,τ2,eQ,hsq⟩:=Abn (k+2) S1.rq
 have eQ':ER (k+4) (Y0 I.q) (σ++τ++[B])=_:=eQ
 have hbox:(σ++τ++[B])[(σ++τ).length]?=some B:=by simp
 have kq:∀ {ρ:Type} (x:Option ρ),Oe (some ⟨(σ++τ).length,0,none⟩) (σ++τ++[B]) (σ++τ++[B]++τ2) x=x:=fun x=>Z7 (by rw[List.getElem?_append_left (Al hbox)]) x
 obtain ⟨μ,hμ,hS2,m2,y0,y1,y2,hcnd⟩:∃ μ,True∧Sn μ I m m t r r∧Mv I.fl I.fl σ μ∧Dg .i64 μ (σ++τ).length 0=some kk∧Dg .i64 μ (σ++τ).length 1=some (mt:Int)∧Dg .i64 μ (σ++τ).length 2=some (ix:Int)∧((bif kk == (2:Int) then (Dg .i64 (σ++τ++[B]) (σ++τ).length 2).bind fun n9=>(L8 (σ++τ++[B]) I.sb 3).bind fun p11=>(ER (k+4) p11 (σ++τ++[B])).bind fun r12=>(H7 r12.1).bind fun l13=>Oe (some ⟨(σ++τ).length,0,none⟩) (σ++τ++[B]) r12.2 (some (decide (n9≥((l13.2.1:Nat):Int)),r12.2)) else some (false,σ++τ++[B])):Option (Bool × Aa))=some (decide (kk=2∧r.qu.length≤ix),μ):=by
  by_cases q2:kk=2
  ·obtain ⟨z0,z1,z2⟩:=bl τ2
   refine ⟨σ++τ++[B]++τ2,trivial,S1.app τ2,m1.trans (Mv.app _ _ _),z0,z1,z2, ?_⟩
   rw[show (kk == 2)=true from beq_iff_eq.2 q2]
   simp only[cond_true,x2,Option.bind_some,S1.uu,eQ',H7,kq,hsq]
   congr 2
   by_cases q3:r.qu.length≤ix
   ·rw[decide_eq_true (show (ix:Int)≥((r.qu.length:Nat):Int) by omega),decide_eq_true ⟨q2,q3⟩]
   ·rw[decide_eq_false (show ¬ (ix:Int)≥((r.qu.length:Nat):Int) by omega),decide_eq_false (fun hh=>q3 hh.2)]
  ·refine ⟨σ++τ++[B],trivial,S1,m1,x0,x1,x2, ?_⟩
   rw[show (kk == 2)=false from beq_eq_false_iff_ne.2 q2,decide_eq_false (fun hh=>q2 hh.1)]
   rfl
 have hbl:(σ++τ).length<μ.length ∧ ∃ o,μ[(σ++τ).length]?=some o:=by
  simp only[Dg,Gi] at y0
  cases e:μ[(σ++τ).length]? with
  | none=>rw[e] at y0; cases y0
  | some o=>exact ⟨Al e,o,rfl⟩
 have hbn:∀ L ∈ I.Ls,(σ++τ).length ∉ L:=fun L hL hm=>by
  have:=(S.app τ).fp.lt L hL _ hm
  omega
 rw[bU,Qj]
 simp only[sw,Ad,Af,Ae,eW',Option.bind_some,Lm,AM,Iv,hB,Nat.zero_add,Nat.reduceAdd,x0,hcnd]
 by_cases q:kk=2∧r.qu.length≤ix
 ·rw[if_pos q,decide_eq_true q]
  obtain ⟨σ3,q',e3,h3,m3,b3⟩:=Afy (k+2) hS2.rq a ha
  have e3':G8 (k+4) (Y0 I.q) a μ=_:=e3
  obtain ⟨S3,mm3,c3⟩:=hS2.qs h3 m3 b3
  obtain ⟨σ4,p',e4,h4,m4,b4⟩:=Afz (k+2) S3.rt a ha
  have e4':G9 (k+4) (Nc I.p) a σ3=_:=e4
  obtain ⟨S4,mm4,c4⟩:=S3.ps h4 m4 b4
  have l1:L8 σ3 I.sb 1=some (Nc I.p):=S3.GJ
  refine ⟨σ4,_,t, ?_,S4,(m2.trans mm3).trans mm4,rfl⟩
  simp only[cond_true,hS2.uu,Option.bind_some,e3',Aj,Z7 c3,l1,e4',beq_self_eq_true]
 ·rw[if_neg q,decide_eq_false q]
  have hp:=hwo q
  obtain ⟨σ3,e3,h3,m3⟩:=Aio (k+2) hS2.rq hp a ha
  have e3':Hj (k+4) (Y0 I.q) kk (mt:Int) (ix:Int) a μ=_:=e3
  obtain ⟨S3,mm3,c3⟩:=hS2.qs h3 m3 rfl
  obtain ⟨σ4,e4,h4,m4⟩:=Aip k S3.rt hp a ha
  have e4':Du (k+4) (Nc I.p) kk (mt:Int) (ix:Int) a σ3=_:=e4
  obtain ⟨S4,mm4,c4⟩:=S3.ps h4 m4 rfl
  have l1:L8 σ3 I.sb 1=some (Nc I.p):=S3.GJ
  have cb:σ3[(σ++τ).length]?=μ[(σ++τ).length]?:=m3.same _ hbl.1 (hbn I.q.l (by simp[Sv.Ls]))
  have ldk:∀ o,Dg .i64 σ3 (σ++τ).length o=Dg .i64 μ (σ++τ).length o:=fun o=>by simp only[Dg,Gi,cb]
  refine ⟨σ4,_,t, ?_,S4,(m2.trans mm3).trans mm4,rfl⟩
  simp only[cond_false,hS2.uu,Option.bind_some,y0,y1,y2,e3',Aj,Z7 c3,Z7 cb,l1,ldk,e4',beq_self_eq_true]
end Go.Proofs.YtjbledomkmdkmaaGreat
end
section
namespace Go.Proofs.YtjbledomkmdkmaaGreat
open Go Go.AX
noncomputable local instance qGU:A9:=Aw
local instance nGU:Kn:=⟨true⟩
variable {σ:Aa} {m mr:HM} {t:RM} {r rq:K4} {I:Sv}
theorem vf {b:Nat} {c x y x' y':Int} (h:(De m (b:Int) c x y x' y').1=0):CE m (b:Int)=0∧b<m.bls.length∧1≤b:=by
 unfold De at h
 split at h
 ·rename_i hc
  split at h
  ·rename_i hu
   rw[Int.toNat_natCast] at hu
   obtain ⟨c1,c2,c3,c4,_⟩:=hc
   have:=hU hu 0 (Nat.le_refl _) (by omega)
   rw[Nat.add_zero] at this
   refine ⟨?_,by omega,by omega⟩
   unfold CE
   rw[if_pos ⟨by omega,c2⟩,Int.toNat_natCast,this]
  ·cases h
 ·cases h
inductive ni (m:HM) (rr d c sp:Int):(Int × Bool) × HM→Prop where
 | none (a:Int):ni m rr d c sp ((a,false),m)
 | gap (a:Nat) (h:CE m ((a/64:Nat):Int)=1) (hl:a<64*m.bls.length):ni m rr d c sp (((a:Int),true),m)
 | rD (b:Nat) (m1:HM) (h0:CE m (b:Int)=0) (hb:b<m.bls.length) (hb1:1≤b) (hM:MK m→MK m1) (hb2:m1.births=m.births)
   (hw:m1.wds=m.wds∧m1.stw=m.stw∧m1.bls.length=m.bls.length)
   (hc:if words rr d c>32 then De m (b:Int) (Un rr d c:Int) 2 sp 3 sp=(0,m1) else De m (b:Int) 1 1 sp 0 0=(0,m1)):ni m rr d c sp ((((64*b:Nat):Int),true),m1)
theorem an (hI:Inv m) (hI2:Inv2 m) {rr d c sp:Int} {b:Nat} {n x y x' y':Int} (hx:x≠0) (hx':x'≠0∨n=1) (hc:if words rr d c>32 then De m (b:Int) (Un rr d c:Int) 2 sp 3 sp=De m (b:Int) n x y x' y' else De m (b:Int) 1 1 sp 0 0=De m (b:Int) n x y x' y'):
  ni m rr d c sp ((((64*b:Nat):Int),((De m (b:Int) n x y x' y').1 == 0)),(De m (b:Int) n x y x' y').2):=by
 have k:=lJ hI hI2 (b:Int) n x y x' y'
 obtain ⟨w1,w2,w3,w4⟩:=gk m (b:Int) n x y x' y'
 by_cases h0:(De m (b:Int) n x y x' y').1=0
 ·obtain ⟨h1,h2,h3⟩:=vf h0
  rw[h0]
  refine .rD b _ h1 h2 h3 (fun hM=>hM.rD _ _ _ _ _ _ hx hx') w4 ⟨w1,w2,w3⟩ ?_
  split
  ·rename_i q
   rw[if_pos q] at hc
   rw[hc,← h0]
  ·rename_i q
   rw[if_neg q] at hc
   rw[hc,← h0]
 ·rw[k.err h0,show ((De m (b:Int) n x y x' y').1 == 0)=false from beq_eq_false_iff_ne.2 h0]
  exact .none _
theorem vp (hM:MK m) (rr d c sp:Int):ni m rr d c sp (firstM m rr d c sp):=by
 have hnb:=hM.nb
 unfold firstM
 by_cases q:words rr d c>32
 ·rw[if_pos q]
  cases hf:xD m (Un rr d c) m.bls.length 1 with
  | none=>exact .none 0
  | some b=>exact an hM.inv hM.inv2 (by decide) (.inl (by decide)) (by rw[if_pos q])
 ·rw[if_neg q]
  cases hg:gpF m (words rr d c) sp (m.bls.length-1) 1 with
  | some a=>
    obtain ⟨h1,h2⟩:=oQ hg (by omega)
    exact .gap a h1 h2
  | none=>
    cases hf:xD m 1 m.bls.length 1 with
    | none=>exact .none 0
    | some b=>exact an hM.inv hM.inv2 (by decide) (.inr rfl) (by rw[if_neg q])
def gH (m:HM) (rr d c sp:Int):HM:=if (firstM m rr d c sp).1.2 then (Hc (firstM m rr d c sp).2 (firstM m rr d c sp).1.1 rr d c).2.2 else (firstM m rr d c sp).2
theorem fy (m:HM) (a r d c:Int):(Hc m a r d c).2.2.births≤m.births+1:=by
 unfold Hc
 split
 ·split
  ·exact Int.le_refl _
  ·dsimp only; omega
 ·dsimp only; omega
theorem Abk (hM:MK m) (hz:T8 m) (rr d c sp:Int):MK (gH m rr d c sp)∧T8 (gH m rr d c sp)∧(gH m rr d c sp).births≤m.births+1∧(gH m rr d c sp).bls.length=m.bls.length:=by
 unfold gH
 have h:=vp hM rr d c sp
 generalize firstM m rr d c sp=F at h
 cases h with
 | none a=>exact ⟨hM,hz,by simp only[Bool.false_eq_true,if_false]; omega,rfl⟩
 | gap a h1 h2=>exact ⟨hM.place _ _ _ _,hz.place hM.inv hM.inv2 hM.sh _ _ _ _,fy _ _ _ _ _,by simp only[if_true]; rw[(cM _ _ _ _ _).1]⟩
 | rD b m1 h0 hb hb1 hM1 hb2 hw hc=>
   have h1:=hM1 hM
   have hz1:T8 m1:=hz.AG hw.2.2 hw.2.1 hw.1
   exact ⟨h1.place _ _ _ _,hz1.place h1.inv h1.inv2 h1.sh _ _ _ _,by have:=fy m1 ((64*b:Nat):Int) rr d c; simp only[if_true]; omega,by simp only[if_true]; rw[(cM _ _ _ _ _).1]; exact hw.2.2⟩
theorem Acs (k:Nat) (hk:5000≤k) (S:Sn σ I m m t r r) (hb:m.births<900000) (rr d c sp:Int) (hsp:0≤sp∧sp<3):SG (H5 (k+13) (bq I) rr d c sp σ) σ I (.bool true) (gH m rr d c sp) r:=by
 obtain ⟨n1,n2,n3⟩:=zn rr d c
 obtain ⟨B,hB⟩:∃ B,A6.cells [.int .i64 rr,.int .i64 d,.int .i64 c] Ag true=B:=⟨_,rfl⟩
 have hfc:=vp S.mo rr d c sp
 have S1:=S.app [B]
 have m1:=Mv.app I.fl σ [B]
 have hbox:(σ++[B])[σ.length]?=some B:=by simp
 have hbn:∀ (I':Sv) (μ:Aa),Mv I.fl I'.fl (σ++[B]) μ→μ[σ.length]?=some B:=fun I' μ hm=>hm.SB hbox fun hm'=>by
  obtain ⟨L,hL,hq⟩:=List.mem_flatten.1 hm'
  have:=S.fp.lt L hL _ hq
  omega
 have bl:∀ μ:Aa,μ[σ.length]?=some B→Dg .i64 μ σ.length 0=some rr∧Dg .i64 μ σ.length 1=some d∧Dg .i64 μ σ.length 2=some c:=fun μ hμ=>by
  rw[← hB] at hμ
  exact Md hμ
 obtain ⟨x0,x1,x2⟩:=bl _ hbox
 obtain ⟨F,hF⟩:∃ F,firstM m rr d c sp=F:=⟨_,rfl⟩
 have eF:Fx (L6 (k+12) (Cq I.j) rr d c sp (σ++[B])) (σ++[B]) I.j _ _:=Ace (k+6) (by omega) S1.g S1.P S.mo.fz rr d c sp
 unfold gH
 rw[hF] at hfc eF ⊢
 rw[Zx,N2]
 simp only[sw,Ad,Af,Ae,AM,hB,Nat.zero_add,Nat.reduceAdd,S1.kr,x0,x1,x2,Option.bind_some]
 cases hfc with
 | none a=>
   obtain ⟨σ2,j2,t2,e2,S2,m2,b2⟩:=S1.js eF S.mo
   refine ⟨σ2,_,t2, ?_,S2,m1.trans m2,rfl⟩
   simp only[e2,Option.bind_some,ji,Bool.not_false,cond_true]
 | gap a h1 h2=>
   have hnt:=S.mo.nt
   obtain ⟨σ2,j2,t2,e2,S2,m2,b2⟩:=S1.js eF S.mo
   have ed:(a:Int).tdiv 64=((a/64:Nat):Int):=sJ a 64
   have w1:Cf ((a/64:Nat):Int)=((a/64:Nat):Int):=Ak (by unfold AU; omega)
   have eS:AY (k+12) (AV I.i) ((a/64:Nat):Int) σ2=_:=mW (k+9) S2.h _
   have hb2:=hbn _ _ m2
   obtain ⟨y0,y1,y2⟩:=bl _ hb2
   have eP:=sy (k+7) (by omega) S2.g S2.P S.mo.sh (show m.births<1000000 by omega) (a:Int) rr d c
   have hMp:=S.mo.place (a:Int) rr d c
   obtain ⟨σ3,j3,t3,e3,S3,m3,b3⟩:=S2.js eP hMp
   have hb3:=hbn _ _ (m2.trans m3)
   obtain ⟨z0,z1,z2⟩:=bl _ hb3
   obtain ⟨σ4,e4,S4,m4,b4⟩:=S3.hs (uJ k hk S3.h S.mo.inv (show m.births<1000000 by omega) (a:Int) rr d c (by unfold AU; omega)) hMp
   have l20:L8 σ2 I.sb 0=some (AV I.i):=S2.K2
   have l22:L8 σ2 I.sb 2=some (Cq j2):=S2.kr
   have l30:L8 σ3 I.sb 0=some (AV I.i):=S3.K2
   have e3':Ft (k+12) (Cq j2) (a:Int) rr d c σ2=_:=e3
   refine ⟨σ4,_,t3, ?_,S4,((m1.trans m2).trans m3).trans m4,rfl⟩
   simp only[e2,Option.bind_some,ji,Bool.not_true,cond_false,show ((64:Int)=0)=False from by simp,if_false,l20,ed,w1,eS,Aj,h1,show ((1:Int) == 0)=false from rfl,if_true,l22,y0,y1,y2,e3',Fs,l30,z0,z1,z2,e4,beq_self_eq_true,cond_true]
 | rD b m1' h0 hb hb1 hM1 hb2' hw hc=>
   have hnt:=S.mo.nt
   have hMc:=hM1 S.mo
   obtain ⟨σ2,j2,t2,e2,S2,m2,b2⟩:=S1.js eF hMc
   have ed:((64*b:Nat):Int).tdiv 64=(b:Int):=by rw[show ((64:Int))=((64:Nat):Int) from rfl,sJ]; congr 1; omega
   have w1:Cf (b:Int)=(b:Int):=Ak (by unfold AU; omega)
   have eS:AY (k+12) (AV I.i) (b:Int) σ2=_:=mW (k+9) S2.h _
   have hb2:=hbn _ _ m2
   obtain ⟨y0,y1,y2⟩:=bl _ hb2
   obtain ⟨τ3,eL⟩:=kE (k+9) rr d c σ2
   have eL':Fk (k+12) rr d c σ2=_:=eL
   have S3:=S2.app τ3
   have m3:=m2.trans (Mv.app _ _ τ3)
   have hb3:=hbn _ _ m3
   obtain ⟨z0,z1,z2⟩:=bl _ hb3
   have l20:L8 σ2 I.sb 0=some (AV I.i):=S2.K2
   have l30:L8 (σ2++τ3) I.sb 0=some (AV I.i):=S3.K2
   obtain ⟨σ5,S5,m5,ec⟩:∃ σ5,Sn σ5 { I with j:=j2 } m1' m1' t2 r r∧Mv I.fl ({ I with j:=j2 }:Sv).fl (σ++[B]) σ5 ∧
     ((bif decide (words rr d c>32) then (L8 (σ2++τ3) I.sb 0).bind fun p22=>(Dg .i64 (σ2++τ3) σ.length 0).bind fun n23=>(Dg .i64 (σ2++τ3) σ.length 1).bind fun n24=>(Dg .i64 (σ2++τ3) σ.length 2).bind fun n25=>(Fq (k+12) n23 n24 n25 (σ2++τ3)).bind fun r26=>(Ml .i64 r26.1).bind fun n27=>(Bn (k+12) p22 (b:Int) n27 sp r26.2).bind fun r28=>(Ml .i64 r28.1).bind fun n29=>some (.normal,[.int .i64 n29],r28.2) else (L8 (σ2++τ3) I.sb 0).bind fun p31=>(CT (k+12) p31 (b:Int) sp (σ2++τ3)).bind fun r32=>(Ml .i64 r32.1).bind fun n33=>some (.normal,[.int .i64 n33],r32.2)):Option Ax)=some (.normal,[.int .i64 0],σ5):=by
    by_cases q:words rr d c>32
    ·rw[if_pos q] at hc
     obtain ⟨τ4,eN⟩:=pq (k+9) rr d c (σ2++τ3)
     have eN':Fq (k+12) rr d c (σ2++τ3)=_:=eN
     rw[n1] at eN'
     have S4:=S3.app τ4
     have hG:=mq (k+5) (by omega) S4.h (b:Int) (Un rr d c:Int) sp (by unfold AU; omega) (by unfold AU; omega)
     rw[hc] at hG
     obtain ⟨σ5,e5,S5,m5,_⟩:=S4.hs hG hMc
     have e5':Bn (k+12) (AV I.i) (b:Int) (Un rr d c:Int) sp (σ2++τ3++τ4)=_:=e5
     refine ⟨σ5,S5,(m3.trans (Mv.app _ _ τ4)).trans m5, ?_⟩
     rw[decide_eq_true q]
     simp only[cond_true,l30,z0,z1,z2,Option.bind_some,eN',Aj,e5']
    ·rw[if_neg q] at hc
     have hG:=wN (k+5) (by omega) S3.h (b:Int) sp (by unfold AU; omega)
     rw[hc] at hG
     obtain ⟨σ5,e5,S5,m5,_⟩:=S3.hs hG hMc
     have e5':CT (k+12) (AV I.i) (b:Int) sp (σ2++τ3)=_:=e5
     refine ⟨σ5,S5,m3.trans m5, ?_⟩
     rw[decide_eq_false q]
     simp only[cond_false,l30,Option.bind_some,e5',Aj]
   have hb5:=hbn _ _ m5
   obtain ⟨u0,u1,u2⟩:=bl _ hb5
   have hb6:m1'.births<1000000:=by rw[hb2']; omega
   have eP:=sy (k+7) (by omega) S5.g S5.P hMc.sh hb6 ((64*b:Nat):Int) rr d c
   have hMp:=hMc.place ((64*b:Nat):Int) rr d c
   obtain ⟨σ6,j6,t6,e6,S6,m6,b6⟩:=S5.js eP hMp
   have hb6':=hbn _ _ (m5.trans m6)
   obtain ⟨v0,v1,v2⟩:=bl _ hb6'
   obtain ⟨σ7,e7,S7,m7,b7⟩:=S6.hs (uJ k hk S6.h hMc.inv hb6 ((64*b:Nat):Int) rr d c (by unfold AU; omega)) hMp
   have l52:L8 σ5 I.sb 2=some (Cq j2):=S5.kr
   have l60:L8 σ6 I.sb 0=some (AV I.i):=S6.K2
   have e6':Ft (k+12) (Cq j2) ((64*b:Nat):Int) rr d c σ5=_:=e6
   refine ⟨σ7,_,t6, ?_,S7,((m1.trans m5).trans m6).trans m7,rfl⟩
   simp only[e2,Option.bind_some,ji,Bool.not_true,cond_false,show ((64:Int)=0)=False from by simp,if_false,l20,ed,w1,eS,Aj,h0,show ((0:Int) == 0)=true from rfl,cond_true,y0,y1,y2,eL',Ar,ec,if_true,FR,bne_self_eq_false,l52,u0,u1,u2,e6',Fs,l60,v0,v1,v2,e7,beq_self_eq_true]
end Go.Proofs.YtjbledomkmdkmaaGreat
end
section
namespace Go.Proofs.YtjbledomkmdkmaaGreat
open Go Go.AX
noncomputable local instance qGV:A9:=Aw
local instance nGV:Kn:=⟨true⟩
variable {σ:Aa} {m mr:HM} {t:RM} {r rq:K4} {I:Sv}
def XC (x0 x1 x2:Int):Int × Int × Int:=
 if x0.tmod 8=4 then (1+(x1.tmod 5).tmod 3,x2.tmod 6,1)
 else if x0.tmod 8=5 then (2+(x1.tmod 5).tmod 3,x2.tmod 6,2)
 else if x0.tmod 8=6 then (x1.tmod 5,x2.tmod 6,3)
 else if x0.tmod 8=7 then (x1.tmod 5,32+x2.tmod 100,0)
 else (x1.tmod 5,x2.tmod 6,0)
theorem wF (μ:Aa) (cs:List Value) (T:TypeId) (o:Nat) (v:Value) (h:o<cs.length):K3 (μ++[.cells cs T true]) μ.length o v=some (μ++[.cells (cs.set o v) T true]):=by
 simp only[K3,List.getElem?_concat_length]
 rw[if_pos h,List.set_append_right _ _ (Nat.le_refl _)]
 simp
theorem Ahg (μ:Aa) (a b c x y z:Value) (T:TypeId) (o:A6):XJ (μ++[.cells [a,b,c] T true]++[o]) μ.length 0 [x,y,z]=some (μ++[.cells [x,y,z] T true]++[o]):=by
 have:(μ++[A6.cells [a,b,c] T true]++[o])[μ.length]?=some (.cells [a,b,c] T true):=by
  rw[List.getElem?_append_left (by simp)]; simp
 simp only[XJ,this]
 rw[if_pos (by simp)]
 simp only[AL,List.append_assoc,List.singleton_append]
 rw[List.set_append_right _ _ (Nat.le_refl _)]
 simp
theorem Ad9 (σ τ:Aa) (vs:List Value) (T:TypeId) (o:Nat) (v:Int) (h:vs[o]?=some (.int .u8 v)):Dg .u8 (σ++[.cells vs T true]++τ) σ.length o=some v:=by
 rw[GK,h]; rfl
theorem Acu (k:Nat) {x0 x1 x2 x3:Int} (h0:0≤x0∧x0<256) (h1:0≤x1∧x1<256) (h2:0≤x2∧x2<256) (σ:Aa):∃ τ,NU (k+1) x0 x1 x2 x3 σ=some (.agg #[.int .i64 (XC x0 x1 x2).1,.int .i64 (XC x0 x1 x2).2.1,.int .i64 (XC x0 x1 x2).2.2],σ++τ):=by
 obtain ⟨A,hA⟩:∃ A,A6.cells [.int .u8 x0,.int .u8 x1,.int .u8 x2,.int .u8 x3] rA true=A:=⟨_,rfl⟩
 have lb:∀ τ o v,([Value.int .u8 x0,.int .u8 x1,.int .u8 x2,.int .u8 x3]:List Value)[o]?=some (.int .u8 v)→Dg .u8 (σ++[A]++τ) σ.length o=some v:=fun τ o v h=>by rw[← hA]; exact Ad9 _ _ _ _ _ _ h
 have w1:Cf x1=x1:=Ak (by unfold AU; omega)
 have w2:Cf x2=x2:=Ak (by unfold AU; omega)
 rw[jW,Xp]
 simp only[sw,Ad,Af,Ae,AM,hA]
 rw[if_pos (by decide)]
 have e1:Dg .u8 (σ++[A]++[A6.cells [.int .i64 0,.int .i64 0,.int .i64 0] Ag true]) σ.length (0+(1:Int).toNat*1)=some x1:=lb _ 1 x1 rfl
 have e2:Dg .u8 (σ++[A]++[A6.cells [.int .i64 0,.int .i64 0,.int .i64 0] Ag true]) σ.length (0+(2:Int).toNat*1)=some x2:=lb _ 2 x2 rfl
 simp only[e1,e2,Option.bind_some,w1,w2,show ((5:Int)=0)=False from by simp,show ((6:Int)=0)=False from by simp,if_false]
 rw[if_pos (by decide)]
 obtain ⟨μ,hμ⟩:∃ μ,σ++[A]++[A6.cells [.int .i64 0,.int .i64 0,.int .i64 0] Ag true]=μ:=⟨_,rfl⟩
 rw[hμ,Iv]
 simp only[Option.bind_some]
 rw[if_pos (by decide)]
 have e0:∀ o,Dg .u8 (μ++[o]) σ.length (0+(0:Int).toNat*1)=some x0:=fun o=>by
  rw[← hμ,List.append_assoc]; exact lb _ 0 x0 rfl
 have e2':∀ o,Dg .u8 (μ++[o]) σ.length (0+(2:Int).toNat*1)=some x2:=fun o=>by
  rw[← hμ,List.append_assoc]; exact lb _ 2 x2 rfl
 simp only[e0,Option.bind_some,show ((8:Int)=0)=False from by simp,if_false]
 have fin:∀ (a b c:Int),∃ τ,((XJ (μ++[A6.cells [.int .i64 a,.int .i64 b,.int .i64 c] Ag true]) (σ++[A]).length 0 [.int .i64 a,.int .i64 b,.int .i64 c]).bind fun s27=>(((ZA s27 (σ++[A]).length 0 3).bind fun v28=>some (Value.agg v28.toArray)).bind fun v29=>some [v29]).bind fun vs30=>some (Og vs30,s27))=some (.agg #[.int .i64 a,.int .i64 b,.int .i64 c],σ++τ):=by
  intro a b c
  refine ⟨[A,A6.cells [.int .i64 a,.int .i64 b,.int .i64 c] Ag true,A6.cells [.int .i64 a,.int .i64 b,.int .i64 c] Ag true], ?_⟩
  have hN:ZA (σ++[A]++[A6.cells [.int .i64 a,.int .i64 b,.int .i64 c] Ag true]++[A6.cells [.int .i64 a,.int .i64 b,.int .i64 c] Ag true]) (σ++[A]).length 0 3=some [.int .i64 a,.int .i64 b,.int .i64 c]:=by
   simp only[ZA]
   rw[List.getElem?_append_left (by simp),List.getElem?_concat_length]
   rfl
  rw[← hμ,Ahg]
  simp only[Option.bind_some,hN]
  rw[show σ++[A]++[A6.cells [.int .i64 a,.int .i64 b,.int .i64 c] Ag true]++[A6.cells [.int .i64 a,.int .i64 b,.int .i64 c] Ag true]=σ++[A,A6.cells [.int .i64 a,.int .i64 b,.int .i64 c] Ag true,A6.cells [.int .i64 a,.int .i64 b,.int .i64 c] Ag true] from by simp]
  rfl
 have m5:=Int.tmod_nonneg 5 h1.1
 have m5':=Int.tmod_lt_of_pos x1 (show (0:Int)<5 by decide)
 have m53:=Int.tmod_nonneg 3 m5
 have m53':=Int.tmod_lt_of_pos (x1.tmod 5) (show (0:Int)<3 by decide)
 have m100:=Int.tmod_nonneg 100 h2.1
 have m100':=Int.tmod_lt_of_pos x2 (show (0:Int)<100 by decide)
 have q1:Cf (1+(x1.tmod 5).tmod 3)=1+(x1.tmod 5).tmod 3:=Ak (by unfold AU; omega)
 have q2:Cf (2+(x1.tmod 5).tmod 3)=2+(x1.tmod 5).tmod 3:=Ak (by unfold AU; omega)
 have q3:Cf (32+x2.tmod 100)=32+x2.tmod 100:=Ak (by unfold AU; omega)
 have s1:∀ (a b c v:Int) (o:Nat),o<3→K3 (μ++[A6.cells [.int .i64 a,.int .i64 b,.int .i64 c] Ag true]) μ.length o (.int .i64 v)=some (μ++[A6.cells ([.int .i64 a,.int .i64 b,.int .i64 c].set o (.int .i64 v)) Ag true]):=fun a b c v o ho=>wF _ _ _ _ _ (by simpa using ho)
 have ln:∀ (a b c:Int),Dg .i64 (μ++[A6.cells [.int .i64 a,.int .i64 b,.int .i64 c] Ag true]) μ.length (0+0)=some a:=fun a b c=>by rw[BJ]; rfl
 unfold XC
 by_cases c4:x0.tmod 8=4
 ·rw[if_pos c4,show (x0.tmod 8 == 4)=true from beq_iff_eq.2 c4]
  simp only[cond_true,ln,Option.bind_some,show ((3:Int)=0)=False from by simp,if_false,s1 _ _ _ _ (0+2) (by decide),List.set_cons_succ,List.set_cons_zero,Nat.zero_add,s1 _ _ _ _ 0 (by decide),q1,if_true]
  simp only[BJ,Nat.zero_add,Nat.reduceAdd,List.getElem?_cons_zero,List.getElem?_cons_succ,Option.bind_some,Aj]
  exact fin _ _ _
 rw[if_neg c4,show (x0.tmod 8 == 4)=false from beq_eq_false_iff_ne.2 c4]
 by_cases c5:x0.tmod 8=5
 ·rw[if_pos c5,show (x0.tmod 8 == 5)=true from beq_iff_eq.2 c5]
  simp only[cond_true,cond_false,ln,Option.bind_some,show ((3:Int)=0)=False from by simp,if_false,s1 _ _ _ _ (0+2) (by decide),List.set_cons_succ,List.set_cons_zero,Nat.zero_add,s1 _ _ _ _ 0 (by decide),q2,if_true]
  simp only[BJ,Nat.zero_add,Nat.reduceAdd,List.getElem?_cons_zero,List.getElem?_cons_succ,Option.bind_some,Aj]
  exact fin _ _ _
 rw[if_neg c5,show (x0.tmod 8 == 5)=false from beq_eq_false_iff_ne.2 c5]
 by_cases c6:x0.tmod 8=6
 ·rw[if_pos c6,show (x0.tmod 8 == 6)=true from beq_iff_eq.2 c6]
  simp only[cond_true,cond_false,Option.bind_some,s1 _ _ _ _ (0+2) (by decide),List.set_cons_succ,List.set_cons_zero,if_true]
  simp only[BJ,Nat.zero_add,Nat.reduceAdd,List.getElem?_cons_zero,List.getElem?_cons_succ,Option.bind_some,Aj]
  exact fin _ _ _
 rw[if_neg c6,show (x0.tmod 8 == 6)=false from beq_eq_false_iff_ne.2 c6]
 by_cases c7:x0.tmod 8=7
 ·rw[if_pos c7,show (x0.tmod 8 == 7)=true from beq_iff_eq.2 c7]
  rw[if_pos (by decide)]
  simp only[cond_true,cond_false,e2',Option.bind_some,w2,show ((100:Int)=0)=False from by simp,if_false,s1 _ _ _ _ (0+1) (by decide),List.set_cons_succ,List.set_cons_zero,q3,if_true]
  simp only[BJ,Nat.zero_add,Nat.reduceAdd,List.getElem?_cons_zero,List.getElem?_cons_succ,Option.bind_some,Aj]
  exact fin _ _ _
 rw[if_neg c7,show (x0.tmod 8 == 7)=false from beq_eq_false_iff_ne.2 c7]
 simp only[cond_false,Option.bind_some,if_true,BJ,Nat.zero_add,Nat.reduceAdd,List.getElem?_cons_zero,List.getElem?_cons_succ,Aj]
 exact fin _ _ _
structure BL where
 p:Option Addr
 n:Nat
 c:Nat
 l:List Int
def zE (l:List Int):List Value:=l.map fun v=>.int .u8 v
structure Xm (lo:Nat) (σ:Aa) (w:Nat) (b:BL):Prop where
 len:b.l.length=b.n*w
 rng:∀ v ∈ b.l,0≤v∧v<256
 at_:b.n=0 ∨ ∃ q T rw,b.p=some ⟨q,0,none⟩∧q<lo∧σ[q]?=some (.cells (zE b.l) T rw)
structure Bg where
 bl:Int
 mu:Int
 ob:BL
 de:BL
 li:BL
 pl:BL
 pi:BL
structure zI (lo:Nat) (σ:Aa) (h0:Nat) (B:Bg):Prop where
 cell:σ[h0]?=some (.cells [.int .u8 B.bl,.int .u8 B.mu,.slice B.ob.p B.ob.n B.ob.c,.slice B.de.p B.de.n B.de.c,.slice B.li.p B.li.n B.li.c,.slice B.pl.p B.pl.n B.pl.c,.slice B.pi.p B.pi.n B.pi.c] DC true)
 hl:h0<lo
 b0:0≤B.bl∧B.bl<256
 m0:0≤B.mu∧B.mu<256
 ob:Xm lo σ 4 B.ob
 de:Xm lo σ 1 B.de
 li:Xm lo σ 3 B.li
 pl:Xm lo σ 2 B.pl
 pi:Xm lo σ 1 B.pi
variable {lo h0:Nat} {B:Bg}
theorem Xm.GI {σ':Aa} {w:Nat} {b:BL} (h:Xm lo σ w b) (hq:∀ q,q<lo→σ'[q]?=σ[q]?):Xm lo σ' w b:=by
 refine ⟨h.len,h.rng,h.at_.imp id fun ⟨q,T,rw',e,hl,hc⟩=>⟨q,T,rw',e,hl,(hq q hl).trans hc⟩⟩
theorem zI.GI {σ':Aa} (h:zI lo σ h0 B) (hq:∀ q,q<lo→σ'[q]?=σ[q]?):zI lo σ' h0 B:=
 ⟨(hq _ h.hl).trans h.cell,h.hl,h.b0,h.m0,h.ob.GI hq,h.de.GI hq,h.li.GI hq,h.pl.GI hq,h.pi.GI hq⟩
def BL.at (b:BL) (y:Nat):Int:=b.l.getD y 0
theorem Xm.rg {w:Nat} {b:BL} (h:Xm lo σ w b) (y:Nat):0≤b.at y∧b.at y<256:=by
 unfold BL.at
 rw[List.getD_eq_getElem?_getD]
 by_cases hy:y<b.l.length
 ·rw[List.getElem?_eq_getElem hy]; exact h.rng _ (List.getElem_mem hy)
 ·rw[List.getElem?_eq_none (by omega)]; exact ⟨Int.le_refl _,by decide⟩
theorem Xm.ld {w:Nat} {b:BL} (h:Xm lo σ w b) {x:Nat} (hx:x<b.n):∃ q,b.p=some ⟨q,0,none⟩∧q<lo ∧ ∀ (μ:Aa),μ[q]?=σ[q]? → ∀ o,o<w→Dg .u8 μ q (x*w+o)=some (b.at (x*w+o)):=by
 rcases h.at_ with h0 | ⟨q,T,rw',e,hl,hc⟩
 ·omega
 ·refine ⟨q,e,hl,fun μ hμ o ho=>?_⟩
  have hlt:x*w+o<b.l.length:=by
   rw[h.len]
   have:(x+1)*w≤b.n*w:=Nat.mul_le_mul_right _ (by omega)
   rw[Nat.add_mul] at this; omega
  unfold BL.at
  simp only[Dg,Gi,hμ,hc,zE,List.getElem?_map,List.getElem?_eq_getElem hlt,Option.map_some,Option.bind_some,List.getD_eq_getElem?_getD,Option.getD_some,Aj]
theorem zI.Hx (h:zI lo σ h0 B):AX.Hx σ h0 2=some (B.ob.p,B.ob.n,B.ob.c)∧AX.Hx σ h0 3=some (B.de.p,B.de.n,B.de.c)∧AX.Hx σ h0 4=some (B.li.p,B.li.n,B.li.c)∧AX.Hx σ h0 5=some (B.pl.p,B.pl.n,B.pl.c)∧AX.Hx σ h0 6=some (B.pi.p,B.pi.n,B.pi.c):=by
 simp[AX.Hx,Gi,h.cell,H7]
structure Mk (lo:Nat) (μ:Aa) (I:Sv) (m:HM) (t:RM) (r:K4) (sb h0:Nat) (B:Bg):Prop where
 s:Sn μ I m m t r r
 sb:I.sb=sb
 b:zI lo μ h0 B
 new:∀ q ∈ I.fl,lo≤q
 ll:lo≤μ.length
theorem Mk.low {μ μ':Aa} {I I':Sv} {t:RM} {r:K4} {sb:Nat} (M:Mk lo μ I m t r sb h0 B) (hm:Mv I.fl I'.fl μ μ'):∀ q,q<lo→μ'[q]?=μ[q]?:=fun q hq=>hm.same q (Nat.lt_of_lt_of_le hq M.ll) fun hm'=>Nat.lt_irrefl _ (Nat.lt_of_lt_of_le hq (M.new q hm'))
theorem Mk.step {μ μ':Aa} {I I':Sv} {t t':RM} {m':HM} {r r':K4} {sb:Nat} (M:Mk lo μ I m t r sb h0 B) (S:Sn μ' I' m' m' t' r' r') (hm:Mv I.fl I'.fl μ μ') (hs':I'.sb=I.sb):Mk lo μ' I' m' t' r' sb h0 B:=
 ⟨S,hs'.trans M.sb,M.b.GI (M.low hm),fun q hq=>(hm.new q hq).elim (M.new q) fun h=>Nat.le_trans M.ll h,Nat.le_trans M.ll hm.len⟩
theorem Mk.app {μ:Aa} {I:Sv} {t:RM} {r:K4} {sb:Nat} (M:Mk lo μ I m t r sb h0 B) (τ:Aa):Mk lo (μ++τ) I m t r sb h0 B:=M.step (M.s.app τ) (Mv.app _ _ _) rfl
def uG (lo h0 sb:Nat) (B:Bg) (F:Nat→Aa→Option Ax) (ex:Dh) (n:Nat) (m m':HM) (r r':K4):Prop:=
 ∀ f μ I t,n<f→Mk lo μ I m t r sb h0 B → ∃ μ' I' t',F f μ=some (ex,[],μ')∧Mk lo μ' I' m' t' r' sb h0 B∧Mv I.fl I'.fl μ μ'
theorem nC (k:Nat) (hk:5000≤k) (B:Bg) (r:K4):∀ (n x:Nat) (m:HM),MK m→T8 m→m.births≤x→x+n=min B.ob.n 40 →
  ∃ m',MK m'∧T8 m'∧m'.births≤40∧m'.bls.length=m.bls.length ∧ ∀ lo h0 sb,uG lo h0 sb B (fun f=>C0 (k+13) f h0 sb (x:Int)) (.exit 0) n m m' r r
 | 0,x,m,hM,hz,hb,hx=>by
   refine ⟨m,hM,hz,by omega,rfl,fun lo h0 sb f μ I t hf M=>?_⟩
   obtain ⟨f,rfl⟩:∃ f',f=f'+1:=⟨f-1,by omega⟩
   refine ⟨μ,I,t, ?_,M,Mv.refl _ _⟩
   show C0 _ _ _ _ _ _=_
   rw[NP,Iw]
   simp only[sw,Ad,Af,Ae,Nat.zero_add,M.b.Hx.1,Option.bind_some]
   by_cases q:x<B.ob.n
   ·simp only[decide_eq_true (show (x:Int)<((B.ob.n:Nat):Int) by omega),cond_true,decide_eq_false (show ¬ (x:Int)<40 by omega),Option.bind_some,cond_false]
   ·simp only[decide_eq_false (show ¬ (x:Int)<((B.ob.n:Nat):Int) by omega),cond_false,Option.bind_some]
 | n+1,x,m,hM,hz,hb,hx=>by
   obtain ⟨P1,P2,P3,P4⟩:=Abk hM hz (XC (B.ob.at (x*4)) (B.ob.at (x*4+1)) (B.ob.at (x*4+2))).1 (XC (B.ob.at (x*4)) (B.ob.at (x*4+1)) (B.ob.at (x*4+2))).2.1 (XC (B.ob.at (x*4)) (B.ob.at (x*4+1)) (B.ob.at (x*4+2))).2.2 ((B.ob.at (x*4+3)).tmod 3)
   obtain ⟨m',a1,a2,a3,a4,LL⟩:=nC k hk B r n (x+1) _ P1 P2 (by omega) (by omega)
   refine ⟨m',a1,a2,a3,a4.trans P4,fun lo h0 sb f μ I t hf M=>?_⟩
   have L:=LL lo h0 sb
   obtain ⟨f,rfl⟩:∃ f',f=f'+1:=⟨f-1,by omega⟩
   have w1:Cf ((x:Int)+1)=((x+1:Nat):Int):=Ak (by unfold AU; omega)
   have hxn:x<B.ob.n:=by omega
   obtain ⟨q,eq,hq,ld⟩:=M.b.ob.ld hxn
   have qx:(0≤(x:Int)∧(x:Int)<((B.ob.n:Nat):Int))=True:=eq_true (by omega)
   have q3:(0≤(3:Int)∧(3:Int)<((4:Nat):Int))=True:=eq_true (by decide)
   have d0:=ld μ rfl 0 (by decide)
   have d1:=ld μ rfl 1 (by decide)
   have d2:=ld μ rfl 2 (by decide)
   have d3:=ld μ rfl 3 (by decide)
   rw[Nat.add_zero] at d0
   have g3:=M.b.ob.rg (x*4+3)
   obtain ⟨τ,eS⟩:=Acu (k+12) (x3:=B.ob.at (x*4+3)) (M.b.ob.rg (x*4)) (M.b.ob.rg (x*4+1)) (M.b.ob.rg (x*4+2)) μ
   have eS':=eS
   rw[show k+12+1=k+13 from rfl] at eS'
   have M1:=M.app τ
   have d3':Dg .u8 (μ++τ) q (x*4+3)=some (B.ob.at (x*4+3)):=ld (μ++τ) (List.getElem?_append_left (by have:=M.ll; omega)) 3 (by decide)
   have w3:Cf (B.ob.at (x*4+3))=B.ob.at (x*4+3):=Ak (by unfold AU; omega)
   have sp0:=Int.tmod_nonneg 3 g3.1
   have sp1:=Int.tmod_lt_of_pos (B.ob.at (x*4+3)) (show (0:Int)<3 by decide)
   obtain ⟨μ2,I2,t2,e2,S2,m2,b2⟩:=Acs k hk M1.s (by omega) (XC (B.ob.at (x*4)) (B.ob.at (x*4+1)) (B.ob.at (x*4+2))).1 (XC (B.ob.at (x*4)) (B.ob.at (x*4+1)) (B.ob.at (x*4+2))).2.1 (XC (B.ob.at (x*4)) (B.ob.at (x*4+1)) (B.ob.at (x*4+2))).2.2 ((B.ob.at (x*4+3)).tmod 3) ⟨sp0,sp1⟩
   have M2:=M1.step S2 m2 b2
   obtain ⟨μ',I',t',e3,M3,m3⟩:=L f μ2 I2 t2 (by omega) M2
   refine ⟨μ',I',t', ?_,M3,((Mv.app _ _ τ).trans m2).trans m3⟩
   show C0 _ _ _ _ _ _=_
   rw[NP,Iw]
   have e2':=e2
   rw[show bq I=some ⟨sb,0,none⟩ from by unfold bq; rw[M.sb]] at e2'
   simp only[sw,Ad,Af,Ae,Nat.zero_add,M.b.Hx.1,M1.b.Hx.1,Option.bind_some,decide_eq_true (show (x:Int)<((B.ob.n:Nat):Int) by omega),cond_true,decide_eq_true (show (x:Int)<40 by omega),qx,if_true,eq,Int.toNat_natCast,Nat.add_assoc,Nat.reduceAdd,Nat.zero_add,d0,d1,d2,d3,eS',sv,Lm,q3,show (3:Int).toNat*1=3 from rfl,d3',w3,show ((3:Int)=0)=False from by simp,if_false,e2',Ar,Bool.not_true,cond_false,w1]
   exact e3
theorem nD (k:Nat) (hk:5000≤k) (B:Bg) (r:K4):∀ (n x:Nat) (m:HM),MK m→T8 m→x+n=min B.de.n 20 →
  ∃ m',MK m'∧T8 m'∧m'.births=m.births∧m'.bls.length=m.bls.length ∧ ∀ lo h0 sb,uG lo h0 sb B (fun f=>C5 (k+12) f h0 sb (x:Int)) (.exit 2) n m m' r r
 | 0,x,m,hM,hz,hx=>by
   refine ⟨m,hM,hz,rfl,rfl,fun lo h0 sb f μ I t hf M=>?_⟩
   obtain ⟨f,rfl⟩:∃ f',f=f'+1:=⟨f-1,by omega⟩
   refine ⟨μ,I,t, ?_,M,Mv.refl _ _⟩
   show C5 _ _ _ _ _ _=_
   rw[NQ,Ix]
   simp only[sw,Ad,Af,Ae,Nat.zero_add,M.b.Hx.2.1,Option.bind_some]
   by_cases q:x<B.de.n
   ·simp only[decide_eq_true (show (x:Int)<((B.de.n:Nat):Int) by omega),cond_true,decide_eq_false (show ¬ (x:Int)<20 by omega),Option.bind_some,cond_false]
   ·simp only[decide_eq_false (show ¬ (x:Int)<((B.de.n:Nat):Int) by omega),cond_false,Option.bind_some]
 | n+1,x,m,hM,hz,hx=>by
   have sh:=WL hM.inv hM.sh (my m ((B.de.at x).toNat % 100))
   obtain ⟨m',a1,a2,a3,a4,LL⟩:=nD k hk B r n (x+1) _ (hM.kill (my m ((B.de.at x).toNat % 100))) (hz.kill hM.inv hM.sh _) (by omega)
   refine ⟨m',a1,a2,by rw[a3,sh.2.2.2.2.2],by rw[a4,sh.1],fun lo h0 sb f μ I t hf M=>?_⟩
   have L:=LL lo h0 sb
   obtain ⟨f,rfl⟩:∃ f',f=f'+1:=⟨f-1,by omega⟩
   have w1:Cf ((x:Int)+1)=((x+1:Nat):Int):=Ak (by unfold AU; omega)
   have hxn:x<B.de.n:=by omega
   obtain ⟨q,eq,hq,ld⟩:=M.b.de.ld hxn
   have qx:(0≤(x:Int)∧(x:Int)<((B.de.n:Nat):Int))=True:=eq_true (by omega)
   have d0:=ld μ rfl 0 (by decide)
   rw[Nat.add_zero,Nat.mul_one] at d0
   have g0:=M.b.de.rg x
   obtain ⟨y,hy⟩:∃ y:Nat,B.de.at x=(y:Int):=⟨(B.de.at x).toNat,by omega⟩
   rw[hy,Int.toNat_natCast] at L
   rw[hy] at d0
   have w0:Cf (y:Int)=(y:Int):=Ak (by unfold AU; omega)
   have em:(y:Int).tmod 100=((y % 100:Nat):Int):=fX y 100
   have eA:Bq (k+12) (bq I) ((y % 100:Nat):Int) μ=_:=uz (k+11) M.s (Nat.mod_lt _ (by decide))
   obtain ⟨σ1,σ2,j',t2,e1,c1,l1,e2,S2,m2⟩:=zK k hk M.s (my m (y % 100)) (uy hM).1
   have M2:=M.step S2 m2 rfl
   obtain ⟨μ',I',t',e3,M3,m3⟩:=L f σ2 _ t2 (by omega) M2
   refine ⟨μ',I',t', ?_,M3,m2.trans m3⟩
   have l2:L8 μ I.sb 2=some (Cq I.j):=M.s.kr
   have hsb:=M.sb
   subst hsb
   show C5 _ _ _ _ _ _=_
   rw[NQ,Ix]
   simp only[sw,Ad,Af,Ae,Nat.zero_add,M.b.Hx.2.1,Option.bind_some,decide_eq_true (show (x:Int)<((B.de.n:Nat):Int) by omega),cond_true,decide_eq_true (show (x:Int)<20 by omega),qx,if_true,eq,Int.toNat_natCast,Nat.mul_one,d0,w0,em,show ((100:Int)=0)=False from by simp,if_false,eA,Aj,l2,e1,Z7 c1,l1,e2,bne_self_eq_false,cond_false,w1]
   exact e3
end Go.Proofs.YtjbledomkmdkmaaGreat
end
