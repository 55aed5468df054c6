/- Calls one by one, and all of them: do, Made.; Small things that more than one law uses.; Looks at a heap: Blocks, State, Space, Shape, Ref, Data, Pinn -/
import Derived.Test.YtlaplcglpnlieaaGreatP14
set_option linter.unusedVariables false
set_option linter.unusedSimpArgs false
set_option linter.unusedSectionVars false
section
namespace Go.Proofs.YtlaplcglpnlieaaGreat
open Go Go.AX
noncomputable local instance zH:Bb:=Az
local instance yI:Kn:=⟨true⟩
variable {σ:Aa} {i:CU} {m:HM}
structure Ye where
 k:Int
 a:Int
 b:Int
 c:Int
 r:Int
 d:Int
 s:Int
def Ye.cells (x:Ye):List Value:=[.int .i64 x.k,.int .i64 x.a,.int .i64 x.b,.int .i64 x.c,.int .i64 x.r,.int .i64 x.d,.int .i64 x.s]
def Ye.ok (x:Ye):Prop:=AV x.k∧AV x.a∧AV x.b∧AV x.c∧AV x.r∧AV x.d∧AV x.s
theorem TD.after {μ:Aa} {mm:Option (Value × Aa)} {r:Int × HM} (h:TD mm μ i r) (hk:BZ i σ μ):TD mm σ i r:=by
 obtain ⟨σ',e,h1,h2⟩:=h
 exact ⟨σ',e,h1,hk.trans h2⟩
def lE (m:HM) (x:Ye):Int × HM:=
 if x.k=0 then Cw m x.a 1 1 x.b 0 0 else if x.k=1 then Cw m x.a x.b 2 x.c 3 x.c else if x.k=2 then Jb m x.a else if x.k=3 then OR m x.a x.b else
 if x.k=4 then (CC m x.a x.r x.d x.s).2 else if x.k=5 then Rh m x.a else if x.k=6 then jh m x.a x.b else if x.k=7 then Yb m x.a x.b x.c else
 if x.k=8 then UH m x.a x.b x.c else if x.k=9 then jr m x.a x.b else if x.k=10 then ir m x.a 1 else if x.k=11 then ir m x.a 0 else
 if x.k=12 then (0,{ m with fw:=[] }) else (0,m)
theorem Mk {c:Prop} [Decidable c] {r r':Int × HM} (h:c→G7 m r) (h':¬ c→G7 m r'):G7 m (if c then r else r'):=by
 split
 ·exact h ‹_›
 ·exact h' ‹_›
theorem lF (h:Inv m) (h2:Inv2 m) (hS:Sh m) (x:Ye):G7 m (lE m x):=by
 unfold lE
 refine Mk (fun _=>NS h h2 _ _ _ _ _ _) fun _=>?_
 refine Mk (fun _=>NS h h2 _ _ _ _ _ _) fun _=>?_
 refine Mk (fun _=>YL h h2 _) fun _=>?_
 refine Mk (fun _=>cS h h2 _ _) fun _=>?_
 refine Mk (fun _=>T5 h h2 hS _ _ _ _) fun _=>?_
 refine Mk (fun _=>fM h h2 hS _) fun _=>?_
 refine Mk (fun _=>o7 h h2 hS _ _) fun _=>?_
 refine Mk (fun _=>kz h h2 _ _ _) fun _=>?_
 refine Mk (fun _=>iu h h2 _ _ _) fun _=>?_
 refine Mk (fun _=>oF h h2 _ _) fun _=>?_
 refine Mk (fun _=>jn h h2 _ _) fun _=>?_
 refine Mk (fun _=>jn h h2 _ _) fun _=>?_
 refine Mk (fun _=>lP h h2) fun _=>?_
 exact G7.same h h2 _
def sd:List Ye→List Value
 | []=>[]
 | x::l=>x.cells++sd l
def nn (σ:Aa) (p:Option Addr) (l:List Ye):Prop:=l=[] ∨ ∃ ab T rw,p=some ⟨ab,0,none⟩∧σ[ab]?=some (.cells (sd l) T rw)
theorem nn.Zm {σ σ':Aa} {p:Option Addr} {l:List Ye} (h:nn σ p l) (hk:BZ i σ σ') (hi:l≠[] → ∀ a,p=some a→a.block ∉ i.l):nn σ' p l:=by
 by_cases hl:l=[]
 ·exact .inl hl
 rcases h with h | ⟨ab,T,rw',rfl,h⟩
 ·exact .inl h
 ·exact .inr ⟨ab,T,rw',rfl,(hk.same _ (Af h) (hi hl _ rfl)).trans h⟩
def runM (m:HM) (l:List Ye):HM:=l.foldl (fun m x=>(lE m x).2) m
end Go.Proofs.YtlaplcglpnlieaaGreat
end
section
namespace Go.Proofs.YtlaplcglpnlieaaGreat
open Go Go.AX
noncomputable local instance z9:Bb:=Az
local instance yA:Kn:=⟨true⟩
variable {σ:Aa} {i:CU} {m:HM}
def FJ (l:List Bool):List Value:=l.map Value.bool
theorem vT {σ:Aa} {b o:Nat} {l:List Bool} {T:TypeId} (h:σ[b]?=some (.cells (FJ l) T true)) (ho:o<l.length):UP σ b o=some (l.getD o false):=by
 simp[UP,Gr,h,FJ,CT,List.getElem?_eq_getElem ho]
theorem wx {σ:Aa} {b o:Nat} {l:List Bool} {T:TypeId} (v:Bool) (h:σ[b]?=some (.cells (FJ l) T true)) (ho:o<l.length):Gn σ b o (.bool v)=some (σ.set b (.cells (FJ (l.set o v)) T true)):=by
 have:o<(FJ l).length:=by simpa [FJ] using ho
 simp only[Gn,h,this,if_true]
 simp[FJ,List.map_set]
theorem qH (l:List Bool) (a b:Nat) (v:Bool) (ha:a<l.length):(l.set a v).getD b false=if b=a then v else l.getD b false:=by
 simp only[List.getD_eq_getElem?_getD,List.getElem?_set]
 by_cases h:a=b
 ·subst h; simp[ha]
 ·rw[if_neg h,if_neg (fun e=>h e.symm)]
theorem KD {lo n j:Nat}:j ∈ Cb m lo n↔lo≤j∧j<lo+n∧FI 1 m.stw j=1:=by
 unfold Cb
 rw[List.mem_filter,List.mem_range'_1]
 simp[and_assoc]
theorem pH {j:Nat}:j ∈ Cb m 0 (32*m.bls.length)↔Start m j:=by
 rw[KD]; unfold Start; simp
theorem aH (lo n:Nat):(Cb m lo n).Nodup:=(List.nodup_range' (step:=1) (by decide)).filter _
theorem RB (l:List Nat) {x:Nat} (hx:x<l.length):(CK l).getD x 0=((2*l[x]:Nat):Int):=by
 simp[CK,List.getElem?_eq_getElem hx]
theorem tA (n:Nat):rep n [Value.bool false]=FJ (List.replicate n false):=by
 simp only[rep,FJ,List.map_replicate]
 induction n with
 | zero=>rfl
 | succ n ih=>rw[List.replicate_succ,List.flatten_cons,ih,List.replicate_succ]; rfl
end Go.Proofs.YtlaplcglpnlieaaGreat
end
section
namespace Go.Proofs.YtlaplcglpnlieaaGreat
open Go Go.AX
noncomputable local instance zD:Bb:=Az
local instance yE:Kn:=⟨true⟩
variable {σ:Aa} {i:CU} {m:HM}
theorem I4 (k:Nat) (h:Ah σ i m):AF (k+2) (BN i) σ=some (.int .i64 ((m.bls.length:Nat):Int),σ):=by
 rw[Lh,Kt,H9 _ h]
 simp only[Option.bind_some,Ao,Bool.not_true,cond_false,Nat.zero_add,Nat.add_zero,h.SX]
theorem kU (k:Nat) (h:Ah σ i m) {b:Nat} (hb:b<m.bls.length):C5 (k+3) (BN i) (b:Int) σ=some (.int .i64 (m.bls.getD b (0,0)).1,σ):=by
 rw[LM,Ln]
 have q1:decide ((b:Int)<0)=false:=decide_eq_false (by omega)
 have q2:decide ((b:Int)≥((m.bls.length:Nat):Int))=false:=decide_eq_false (by omega)
 simp only[q1,cond_false,I4 _ h,Option.bind_some,Am,q2,Nat.zero_add,Nat.add_zero,h.SX]
 rw[if_pos (by omega)]
 simp only[Option.bind_some,Int.toNat_natCast,Nat.zero_add,(h.UP hb).1]
theorem eh (k:Nat) (h:Ah σ i m) {b:Nat} (hb:b<m.bls.length):B5 (k+3) (BN i) (b:Int) σ=some (.int .i64 (m.bls.getD b (0,0)).2,σ):=by
 rw[IM,IG]
 have q1:decide ((b:Int)<0)=false:=decide_eq_false (by omega)
 have q2:decide ((b:Int)≥((m.bls.length:Nat):Int))=false:=decide_eq_false (by omega)
 simp only[q1,cond_false,I4 _ h,Option.bind_some,Am,q2,Nat.zero_add,Nat.add_zero,h.SX]
 rw[if_pos (by omega)]
 simp only[Option.bind_some,Int.toNat_natCast,Nat.zero_add,(h.UP hb).2]
def u7 (m:HM) (a:Int):Int:=(getM m.fw a).getD 0
theorem np (k:Nat) (h:Ah σ i m) (a:Int):Gj (k+2) (BN i) a σ=some (.tuple #[.int .i64 (u7 m a),.int .i64 (if (getM m.fw a).isSome then 0 else 4)],σ):=by
 rw[Vh,QL]
 simp only[H9 _ h,Option.bind_some,Ao,Bool.not_true,cond_false,Nat.zero_add,h.xw,bL,S9,h.fw,je]
 unfold u7
 cases getM m.fw a with
 | none=>rfl
 | some t=>rfl
def uG (m:HM) (a:Int):Bool:=I0 m a && decide (FI 1 m.pnw (a.toNat/2)=1)
theorem qa (k:Nat) (h:Ah σ i m) (a:Int) (ha:AV a):GB (k+5) (BN i) a σ=some (.bool (uG m a),σ):=by
 have ht:=h.nt
 rw[Wd,RH,nq _ h a ha]
 simp only[Option.bind_some,Ao]
 unfold uG
 cases hh:I0 m a with
 | false=>simp only[cond_false,Option.bind_some,Bool.false_and]
 | true=>
   obtain ⟨j,rfl,hs⟩:=IA hh
   have hj:=hs.1
   have t1:((2*j:Nat):Int).tdiv 2=(j:Int):=by
    rw[show ((2*j:Nat):Int).tdiv 2=(((2*j)/2:Nat):Int) from rfl]; omega
   have e1:Ae (j:Int)=(j:Int):=Ad (by unfold AV; omega)
   have hG:Eg (k+4) (some ⟨i.pn,0,none⟩) (j:Int) σ=some (.int .i64 (FI 1 m.pnw j:Int),σ):=by
    have:=rQ (k+1) h.pn (j:Int)
    rw[if_pos (by omega),Int.toNat_natCast] at this
    exact this
   have hb:(((FI 1 m.pnw j:Nat):Int) == 1)=decide (FI 1 m.pnw j=1):=by
    by_cases hq:FI 1 m.pnw j=1
    ·simp[hq]
    ·have:¬ ((FI 1 m.pnw j:Nat):Int)=1:=by omega
     simp[hq,this]
   simp only[cond_true,Nat.zero_add,h.uE,Option.bind_some,show ((2:Int)=0)=False from by simp,if_false,t1,e1,hG,Am,Bool.true_and,show ((2*j:Nat):Int).toNat/2=j from by omega,hb]
def EG (m:HM) (j:Nat):Int:=(m.wds.getD (2*j+1) 0).tdiv 4096
theorem rX (k:Nat) (h:Ah σ i m) {j:Nat} (hs:Start m j):∃ τ,Hk (k+6) (BN i) ((2*j:Nat):Int) σ=some (.tuple #[.agg #[.int .i64 (AQ m j),.int .i64 (BB m j),.int .i64 (EG m j)],.int .i64 0],σ++τ):=by
 have hw:=h.wl
 have ht:=h.nt
 have hj:=hs.1
 rw[Qm,Ov]
 simp only[An]
 have h1:=h.app [AJ.cells [Value.int .i64 0,.int .i64 0,.int .i64 0] Ag true]
 obtain ⟨τ,hsh⟩:=gB (k+4) (m.wds.getD (2*j+1) 0) (h.wi _) (σ++[AJ.cells [Value.int .i64 0,.int .i64 0,.int .i64 0] Ag true])
 have e1:Ae (((2*j:Nat):Int)+1)=((2*j+1:Nat):Int):=Ad (by unfold AV; omega)
 simp only[U9 _ h1 _ (show AV ((2*j:Nat):Int) by unfold AV; omega),dI hs,if_true,Option.bind_some,Am,bne_self_eq_false,cond_false,Nat.zero_add,h1.HA,e1,Int.toNat_natCast,Nat.mul_one]
 rw[if_pos (by omega)]
 simp only[h1.qO (show 2*j+1<m.wds.length by omega),Option.bind_some,hsh,Z8]
 rw[show ((m.wds.getD (2*j+1) 0).tmod 4096).tdiv 16=BB m j from rfl,show (m.wds.getD (2*j+1) 0).tmod 16=AQ m j from rfl,show (m.wds.getD (2*j+1) 0).tdiv 4096=EG m j from rfl]
 refine ⟨[AJ.cells [.int .i64 (AQ m j),.int .i64 (BB m j),.int .i64 (EG m j)] Ag true]++τ, ?_⟩
 have e2:∀ x y z u v w:Value,Ip (σ++[AJ.cells [x,y,z] Ag true]++τ) σ.length 0 [u,v,w]=some (σ++[AJ.cells [u,v,w] Ag true]++τ):=by
  intro x y z u v w; simp[Ip,AN]
 have e3:∀ u v w:Value,R5 (σ++[AJ.cells [u,v,w] Ag true]++τ) σ.length 0 3=some [u,v,w]:=by
  intro u v w; simp[R5]
 rw[← List.append_assoc]
 simp only[e2,Option.bind_some,e3,LV]
theorem ei (k lo:Nat) (L:List Nat) (hL:∀ j ∈ L,Start m j) (hl:L.length≤5000) (s:EJ):∀ (n x f acc:Nat) (σ:Aa),Ah σ i m→Dl lo σ s (CK L)→x+n=L.length→acc≤218*x→n<f →
  ∃ τ,EN (k+3) f (BN i) s.1 s.2.1 s.2.2 (L.length:Int) (acc:Int) (x:Int) σ=some (.exit 0,[.int .i64 (((acc+((L.drop x).map fun j=>sz m j).sum:Nat)):Int)],σ++τ)
 | 0,x,0,acc,σ,h,hs,hx,ha,hf=>by omega
 | 0,x,f+1,acc,σ,h,hs,hx,ha,hf=>by
   rw[OC,M7]
   have q:decide ((x:Int)<(L.length:Int))=false:=decide_eq_false (by omega)
   refine ⟨[], ?_⟩
   rw[List.drop_eq_nil_of_le (by omega)]
   simp only[q,cond_false,List.append_nil,List.map_nil,List.sum_nil,Nat.add_zero]
 | n+1,x,0,acc,σ,h,hs,hx,ha,hf=>by omega
 | n+1,x,f+1,acc,σ,h,hs,hx,ha,hf=>by
   have hxl:x<L.length:=by omega
   have hst:=hL _ (List.getElem_mem hxl)
   have hlen:=hs.len
   have al:(CK L).length=L.length:=by simp[CK]
   have hz:=gN (m.wds.getD (2*L[x]+1) 0)
   obtain ⟨τ,e⟩:=aE k h hst.1
   obtain ⟨τ',e'⟩:=ei k lo L hL hl s n (x+1) f (acc+sz m L[x]) (σ++τ) (h.app τ) (hs.app τ) (by omega) (by unfold sz; omega) (by omega)
   refine ⟨τ++τ', ?_⟩
   rw[List.drop_eq_getElem_cons hxl,List.map_cons,List.sum_cons,← Nat.add_assoc,← List.append_assoc,← e']
   rcases hs with ⟨he,_⟩ | ⟨b,hb1,rfl,hb2,hb3⟩
   ·rw[he] at al; simp at al; omega
   rw[OC,M7]
   have q:decide ((x:Int)<(L.length:Int))=true:=decide_eq_true (by omega)
   have w1:Ae ((x:Int)+1)=((x+1:Nat):Int):=Ad (by unfold AV; omega)
   have w2:Ae ((acc:Int)+(sz m L[x]:Int))=((acc+sz m L[x]:Nat):Int):=Ad (by unfold AV sz; omega)
   have vt:Ak .i64 σ b x=some ((2*L[x]:Nat):Int):=by
    have hh:Dl lo σ (some ⟨b,0,none⟩,(CK L).length,(CK L).length) (CK L):=.inr ⟨b,hb1,rfl,hb2,hb3⟩
    rw[hh.ld (by omega),RB L hxl]
   simp only[q,cond_true]
   rw[if_pos (by omega)]
   simp only[Option.bind_some,Nat.zero_add,Int.toNat_natCast,Nat.mul_one,vt,e,Am,w1,w2]
def vz (m:HM):Nat:=((Cb m 0 (32*m.bls.length)).map fun j=>sz m j).sum
theorem KK (m:HM) (lo n:Nat):(Cb m lo n).length≤n:=by
 have:(Cb m lo n).length≤(List.range' lo n).length:=List.length_filter_le _ _
 simpa using this
theorem uf (k:Nat) (hk:5000≤k) (h:Ah σ i m):∃ τ,JN (k+7) (BN i) σ=some (.int .i64 (vz m:Int),σ++τ):=by
 have ht:=h.nt
 obtain ⟨τ,s,e,hs⟩:=rM k hk h
 have hl:=KK m 0 (32*m.bls.length)
 obtain ⟨τ',e'⟩:=ei (k+3) σ.length (Cb m 0 (32*m.bls.length)) (fun j hj=>pH.1 hj) (by omega) s (Cb m 0 (32*m.bls.length)).length 0 (k+6) 0 (σ++τ) (h.app τ) hs (by omega) (by omega) (by omega)
 have hlen:=hs.len
 have al:(CK (Cb m 0 (32*m.bls.length))).length=(Cb m 0 (32*m.bls.length)).length:=by simp[CK]
 rw[al] at hlen
 refine ⟨τ++τ', ?_⟩
 rw[Yl,Ui]
 have e0:EN (k+6) (k+6) (BN i) s.1 s.2.1 s.2.2 ((Cb m 0 (32*m.bls.length)).length:Int) 0 0 (σ++τ)=_:=e'
 simp only[e,Option.bind_some,Gp,hlen] at e0 ⊢
 rw[← hlen] at e0 ⊢
 rw[e0]
 simp only[Option.bind_some,if_true,DQ,List.drop_zero,Nat.zero_add,List.append_assoc]
 rfl
structure H6 (σ:Aa) (s:EJ) (σ':Aa) (s':EJ):Prop where
 len:σ.length≤σ'.length
 same:∀ q,q<σ.length→(∀ a,s.1=some a→a.block≠q)→σ'[q]?=σ[q]?
 new:s'=s ∨ ∀ a,s'.1=some a→σ.length≤a.block
theorem H6.refl (σ:Aa) (s:EJ):H6 σ s σ s:=⟨Nat.le_refl _,fun _ _ _=>rfl,.inl rfl⟩
theorem H6.app (σ:Aa) (s:EJ) (τ:Aa):H6 σ s (σ++τ) s:=⟨by simp,fun q hq _=>List.getElem?_append_left hq,.inl rfl⟩
theorem H6.trans {a b c:Aa} {s t u:EJ} (h:H6 a s b t) (g:H6 b t c u):H6 a s c u:=by
 refine ⟨Nat.le_trans h.len g.len,fun q hq hn=>?_, ?_⟩
 ·refine (g.same q (Nat.lt_of_lt_of_le hq h.len) fun x hx=>?_).trans (h.same q hq hn)
  rcases h.new with rfl | hw
  ·exact hn x hx
  ·have:=hw x hx; omega
 ·rcases g.new with rfl | hw
  ·exact h.new
  ·exact .inr fun x hx=>Nat.le_trans h.len (hw x hx)
def xr (i:CU) (s:EJ):Prop:=∀ a,s.1=some a→a.block ∉ i.l
theorem H6.heap {σ':Aa} {s s':EJ} (g:H6 σ s σ' s') (h:Ah σ i m) (ho:xr i s):Ah σ' i m∧xr i s':=by
 refine ⟨h.Cx fun j hj=>g.same j (h.lt j hj) fun a ha e=>ho a ha (e ▸ hj), ?_⟩
 rcases g.new with rfl | hw
 ·exact ho
 ·intro a ha hm
  have:=hw a ha
  have:=h.lt _ hm
  omega
theorem H6.other {σ':Aa} {s s':EJ} (g:H6 σ s σ' s') {q:Nat} {o:AJ} (h:σ[q]?=some o) (hs:∀ a,s.1=some a→a.block≠q):σ'[q]?=some o ∧ ∀ a,s'.1=some a→a.block≠q:=by
 have hq:=Af h
 refine ⟨(g.same q hq hs).trans h, ?_⟩
 rcases g.new with rfl | hw
 ·exact hs
 ·intro a ha e
  have:=hw a ha
  omega
def Om (m:HM) (a n:Nat):List Int:=(List.range' a n).map fun x=>m.wds.getD x 0
theorem UG (m:HM) (a n:Nat):Om m a (n+1)=m.wds.getD a 0::Om m (a+1) n:=by simp[Om,List.range'_succ]
theorem FB (m:HM) (a n:Nat):(Om m a n).length=n:=by simp[Om]
theorem H6.behind {σ σ':Aa} {τ:Aa} {s s':EJ} (g:H6 (σ++τ) s σ' s') (hs:∀ a,s.1=some a→σ.length≤a.block):(∃ τ',σ'=σ++τ') ∧ ∀ a,s'.1=some a→σ.length≤a.block:=by
 refine ⟨⟨σ'.drop σ.length, ?_⟩, ?_⟩
 ·have hlen:=g.len
  simp at hlen
  apply List.ext_getElem?
  intro q
  by_cases hq:q<σ.length
  ·rw[List.getElem?_append_left hq,g.same q (by simp; omega) (fun a ha e=>by have:=hs a ha; omega),List.getElem?_append_left hq]
  ·rw[List.getElem?_append_right (by omega),List.getElem?_drop]
   congr 1; omega
 ·rcases g.new with rfl | hw
  ·exact hs
  ·intro a ha
   have:=hw a ha
   simp at this; omega
end Go.Proofs.YtlaplcglpnlieaaGreat
end
section
namespace Go.Proofs.YtlaplcglpnlieaaGreat
open Go Go.AX
noncomputable local instance zI:Bb:=Az
local instance yJ:Kn:=⟨true⟩
variable {σ:Aa} {i:CU} {m:HM}
theorem yq:Ik P AH=some 2:=by kernel_rfl
theorem yf:bytesOf P AH=some 16:=by kernel_rfl
theorem yt:Fj P AH=some (.agg #[.int .i64 0,.int .i64 0]):=by kernel_rfl
theorem yr:Ik P Kf=some 1:=by kernel_rfl
theorem yg:bytesOf P Kf=some 8:=by kernel_rfl
theorem yu:Fj P Kf=some (.int .u64 0):=by kernel_rfl
theorem yh (a:Addr) (n c:Nat):PX P YQ (.slice (some a) n c) (.slice none 0 0)=some false:=by kernel_rfl
theorem yj (a:Addr) (n c:Nat):PX P tH (.slice (some a) n c) (.slice none 0 0)=some false:=by kernel_rfl
theorem yi (a:Addr) (n c:Nat):PX P jB (.slice (some a) n c) (.slice none 0 0)=some false:=by kernel_rfl
theorem UX {E:TypeId} {s by_:Nat} {z:Value} (hs:Ik P E=some s) (hb:bytesOf P E=some by_) (hz:Fj P E=some z) (hz1:IZ z=false) (hz2:z.cells.size=s) (hs0:0<s) (hb0:0<by_) (hb1:by_≤1000)
  (σ:Aa) (p:Option Addr) (n c:Nat) (hn:0<n) (hn1:n≤100000) (row:List Value) (hf:Fu (σ++[.cells [] E true]) s p n=some row):
  Be P E (some ⟨σ.length,0,some 0⟩,0,0) (p,n,c) (σ++[.cells [] E true])=some ((some ⟨σ.length+1,0,none⟩,n,n),σ++[AJ.cells [] E true,.cells row E true]):=by
 unfold Be Td
 have h1:(¬ (IZ z=false∧some s=some z.cells.size∧0<z.cells.size))=False:=by
  rw[hz1,hz2]; simp[hs0]
 have r:SF (0+n) by_∧0<by_:=by
  unfold SF
  have:(0+n)*by_≤100000*1000:=Nat.mul_le_mul (by omega) hb1
  refine ⟨⟨by omega,by omega⟩,hb0⟩
 have e1:elemAt (σ++[.cells [] E true]) σ.length=some E:=by simp[elemAt]
 have e2:R5 (σ++[.cells [] E true]) σ.length 0 (0*s)=some []:=by simp[R5]
 have e3:Kg (σ++[.cells [] E true]) σ.length=true:=by simp[Kg]
 simp only[hs,hb,hz,hf,Option.bind_some,h1,if_false,show ¬ (0+n≤0) from by omega,r,and_self,if_true,LS,Option.isSome_some,cond_true,tS]
 simp
theorem qv (k:Nat) (h:Ah σ i m):EK (k+1) (some ⟨i.bl,0,none⟩,m.bls.length,m.bls.length) σ=some (.slice (some ⟨σ.length+1,0,none⟩) m.bls.length m.bls.length,σ++[AJ.cells [] AH true,.cells (Cv m.bls) AH true]):=by
 have ht:=h.nt
 have hn:=h.nb
 rw[QI,Mt]
 have h1:=h.app [AJ.cells [] AH true]
 have e:=UX yq yf yt rfl rfl (by decide) (by decide) (by decide) σ (some ⟨i.bl,0,none⟩) m.bls.length m.bls.length (by omega) (by omega) (Cv m.bls) (by
  simp only[Fu,R5,h1.bl,Dn,Nat.zero_add,Nat.mul_comm 2,Nat.le_refl,if_true,List.drop_zero]
  rw[List.take_of_length_le (by rw[Dn]; omega)])
 simp only[yh,Option.bind_some,cond_false,An,e]
theorem qz (k:Nat) (h:Ah σ i m):Ig (k+1) (some ⟨i.wd,0,none⟩,m.wds.length,m.wds.length) σ=some (.slice (some ⟨σ.length+1,0,none⟩) m.wds.length m.wds.length,σ++[AJ.cells [] AP true,.cells (CN m.wds) AP true]):=by
 have ht:=h.nt
 have hn:=h.nb
 have hw:=h.wl
 rw[Wt,Sb]
 have h1:=h.app [AJ.cells [] AP true]
 have e:=UX xz xu xB rfl rfl (by decide) (by decide) (by decide) σ (some ⟨i.wd,0,none⟩) m.wds.length m.wds.length (by omega) (by omega) (CN m.wds) (by
  simp only[Fu,R5,h1.wd,GW,Nat.zero_add,Nat.mul_one,Nat.le_refl,if_true,List.drop_zero]
  rw[List.take_of_length_le (by rw[GW]; omega)])
 simp only[yj,Option.bind_some,cond_false,An,e]
theorem qw (k:Nat) {tb wb e w:Nat} {ws:List (BitVec 64)} (h:Fa σ tb wb e w ws):G8 (k+1) (some ⟨wb,0,none⟩,ws.length,ws.length) σ=some (.slice (some ⟨σ.length+1,0,none⟩) ws.length ws.length,σ++[AJ.cells [] Kf true,.cells (rowOf ws) Kf true]):=by
 have hl:=h.len
 have hp:=h.pos
 have ht:=h.top
 have hwl:0<ws.length∧ws.length≤100000:=by
  rw[hl]
  rcases h.okw with rfl | rfl | rfl | rfl <;> omega
 rw[TJ,Pb]
 have h1:=h.app [AJ.cells [] Kf true]
 have hrl:(rowOf ws).length=ws.length:=by simp[rowOf]
 have e:=UX yr yg yu rfl rfl (by decide) (by decide) (by decide) σ (some ⟨wb,0,none⟩) ws.length ws.length hwl.1 hwl.2 (rowOf ws) (by
  simp only[Fu,R5,h1.row,hrl,Nat.zero_add,Nat.mul_one,Nat.le_refl,if_true,List.drop_zero]
  rw[List.take_of_length_le (by rw[hrl]; omega)])
 simp only[yi,Option.bind_some,cond_false,An,e]
theorem Mm (σ τ:Aa) {ρ:Type} (x:Option ρ):EV σ (σ++τ) x=x:=kj σ τ x
theorem iI (k:Nat) {tb wb e w:Nat} {ws:List (BitVec 64)} (h:Fa σ tb wb e w ws):
  ∃ τ,Ie (k+2) (some ⟨tb,0,none⟩) σ=some (.pointer (some ⟨σ.length+2,0,none⟩),σ++τ)∧τ.length=3∧Fa (σ++τ) (σ.length+2) (σ.length+1) e w ws:=by
 refine ⟨[AJ.cells [] Kf true,.cells (rowOf ws) Kf true,.cells [.int .i64 (e:Int),.int .i64 (w:Int),.slice (some ⟨σ.length+1,0,none⟩) ws.length ws.length] Nm true], ?_,rfl, ?_, ?_,h.len,h.pos,h.top,h.okw⟩
 ·rw[Ws,Sa]
  simp only[ae _ h,Option.bind_some,Ao,Bool.not_true,cond_false,Nat.zero_add,Nat.add_zero,h.wY,h.qO,h.xM,qw _ h,Mm,Gp,An]
  simp
 ·rw[List.getElem?_append_right (by omega),show σ.length+2-σ.length=2 from by omega]; rfl
 ·rw[List.getElem?_append_right (by omega),show σ.length+1-σ.length=1 from by omega]; rfl
theorem iH (k:Nat) {r:Nat} {es:List (Int × Value)} (h:σ[r]?=some (.map es)):JP (k+1) (some r) σ=some (.map (some σ.length),σ++[.map es]):=by
 rw[Yo]
 simp[bg,S9,h]
theorem rO (k:Nat) (h:Ah σ i m):∃ τ i',Hi (k+3) (BN i) σ=some (.pointer (BN i'),σ++τ)∧Ah (σ++τ) i' m ∧ ∀ j ∈ i'.l,σ.length≤j:=by
 rw[WW,Tg]
 have e1:=qv (k+1) h
 obtain ⟨τ1,hτ1⟩:∃ τ1,[AJ.cells [] AH true,.cells (Cv m.bls) AH true]=τ1:=⟨_,rfl⟩
 rw[hτ1] at e1
 obtain ⟨σ1,hσ1⟩:∃ σ1,σ++τ1=σ1:=⟨_,rfl⟩
 have h1:Ah σ1 i m:=hσ1 ▸ h.app τ1
 have l1:σ1.length=σ.length+2:=by rw[← hσ1,← hτ1]; simp
 have e2:=qz (k+1) h1
 obtain ⟨τ2,hτ2⟩:∃ τ2,[AJ.cells [] AP true,.cells (CN m.wds) AP true]=τ2:=⟨_,rfl⟩
 rw[hτ2] at e2
 obtain ⟨σ2,hσ2⟩:∃ σ2,σ1++τ2=σ2:=⟨_,rfl⟩
 have h2:Ah σ2 i m:=hσ2 ▸ h1.app τ2
 have l2:σ2.length=σ1.length+2:=by rw[← hσ2,← hτ2]; simp
 obtain ⟨τ3,e3,lt3,t3⟩:=iI k h2.st
 obtain ⟨σ3,hσ3⟩:∃ σ3,σ2++τ3=σ3:=⟨_,rfl⟩
 have h3:Ah σ3 i m:=hσ3 ▸ h2.app τ3
 have l3:σ3.length=σ2.length+3:=by rw[← hσ3]; simp[lt3]
 rw[hσ3] at t3
 obtain ⟨τ4,e4,lt4,t4⟩:=iI k h3.pn
 obtain ⟨σ4,hσ4⟩:∃ σ4,σ3++τ4=σ4:=⟨_,rfl⟩
 have h4:Ah σ4 i m:=hσ4 ▸ h3.app τ4
 have l4:σ4.length=σ3.length+3:=by rw[← hσ4]; simp[lt4]
 rw[hσ4] at t4
 have e5:=iH (k+1) h4.pl
 obtain ⟨σ5,hσ5⟩:∃ σ5,σ4++[.map (Pq m.pl)]=σ5:=⟨_,rfl⟩
 have h5:Ah σ5 i m:=hσ5 ▸ h4.app _
 have l5:σ5.length=σ4.length+1:=by rw[← hσ5]; simp
 have e6:=iH (k+1) h5.fw
 obtain ⟨σ6,hσ6⟩:∃ σ6,σ5++[.map (Pq m.fw)]=σ6:=⟨_,rfl⟩
 have h6:Ah σ6 i m:=hσ6 ▸ h5.app _
 have l6:σ6.length=σ5.length+1:=by rw[← hσ6]; simp
 obtain ⟨hc,hhc⟩:∃ hc,AJ.cells [.slice (some ⟨σ.length+1,0,none⟩) m.bls.length m.bls.length,.slice (some ⟨σ1.length+1,0,none⟩) m.wds.length m.wds.length,.pointer (some ⟨σ2.length+2,0,none⟩),.pointer (some ⟨σ3.length+2,0,none⟩),.map (some σ4.length),.map (some σ5.length),.int .i64 m.births] EI true=hc:=⟨_,rfl⟩
 have run:∃ τ,σ6++[hc]=σ++τ:=⟨τ1++τ2++τ3++τ4++[.map (Pq m.pl)]++[.map (Pq m.fw)]++[hc],by rw[← hσ6,← hσ5,← hσ4,← hσ3,← hσ2,← hσ1]; simp⟩
 obtain ⟨τ,hτ⟩:=run
 have q1:∀ {ρ:Type} (x:Option ρ),EV σ σ1 x=x:=fun x=>by rw[← hσ1]; exact Mm _ _ x
 have q2:∀ {ρ:Type} (x:Option ρ),EV σ1 σ2 x=x:=fun x=>by rw[← hσ2]; exact Mm _ _ x
 have q3:∀ {ρ:Type} (x:Option ρ),EV σ2 σ3 x=x:=fun x=>by rw[← hσ3]; exact Mm _ _ x
 have q4:∀ {ρ:Type} (x:Option ρ),EV σ3 σ4 x=x:=fun x=>by rw[← hσ4]; exact Mm _ _ x
 have q5:∀ {ρ:Type} (x:Option ρ),EV σ4 σ5 x=x:=fun x=>by rw[← hσ5]; exact Mm _ _ x
 have q6:∀ {ρ:Type} (x:Option ρ),EV σ5 σ6 x=x:=fun x=>by rw[← hσ6]; exact Mm _ _ x
 rw[hσ1] at e1
 rw[hσ2] at e2
 rw[hσ3] at e3
 rw[hσ4] at e4
 rw[hσ5] at e5
 rw[hσ6] at e6
 refine ⟨τ,⟨σ6.length,σ.length+1,σ1.length+1,σ2.length+2,σ2.length+1,σ3.length+2,σ3.length+1,σ4.length,σ5.length⟩, ?_, ?_, ?_⟩
 ·simp only[H9 _ h,Option.bind_some,Ao,Bool.not_true,cond_false,Nat.zero_add,Nat.add_zero,h.SX,e1,q1,Gp,h1.HA,e2,q2,h2.kP,e3,q3,TZ,h3.uE,e4,q4,h4.xv,e5,q5,da,h5.xw,e6,q6,h6.vr,An]
  rw[hhc,hτ]
 ·rw[← hτ]
  have p1:∀ q o,σ1[q]?=some o→(σ6++[hc])[q]?=some o:=fun q o ho=>by
   rw[← hσ6,← hσ5,← hσ4,← hσ3,← hσ2]
   have:=Af ho
   rw[List.getElem?_append_left (by simp; omega),List.getElem?_append_left (by simp; omega),List.getElem?_append_left (by simp; omega),List.getElem?_append_left (by simp; omega),List.getElem?_append_left (by simp; omega),List.getElem?_append_left this]; exact ho
  have p2:∀ q o,σ2[q]?=some o→(σ6++[hc])[q]?=some o:=fun q o ho=>by
   rw[← hσ6,← hσ5,← hσ4,← hσ3]
   have:=Af ho
   rw[List.getElem?_append_left (by simp; omega),List.getElem?_append_left (by simp; omega),List.getElem?_append_left (by simp; omega),List.getElem?_append_left (by simp; omega),List.getElem?_append_left this]; exact ho
  have p3:∀ q o,σ3[q]?=some o→(σ6++[hc])[q]?=some o:=fun q o ho=>by
   rw[← hσ6,← hσ5,← hσ4]
   have:=Af ho
   rw[List.getElem?_append_left (by simp; omega),List.getElem?_append_left (by simp; omega),List.getElem?_append_left (by simp; omega),List.getElem?_append_left this]; exact ho
  have p4:∀ q o,σ4[q]?=some o→(σ6++[hc])[q]?=some o:=fun q o ho=>by
   rw[← hσ6,← hσ5]
   have:=Af ho
   rw[List.getElem?_append_left (by simp; omega),List.getElem?_append_left (by simp; omega),List.getElem?_append_left this]; exact ho
  refine ⟨by rw[← hhc]; simp,p1 _ _ (by rw[← hσ1,← hτ1]; simp),p2 _ _ (by rw[← hσ2,← hτ2]; simp),⟨p3 _ _ t3.tab,p3 _ _ t3.row,t3.len,t3.pos,t3.top,t3.okw⟩,⟨p4 _ _ t4.tab,p4 _ _ t4.row,t4.len,t4.pos,t4.top,t4.okw⟩, ?_, ?_,h.nb,h.nt,h.wl, ?_,h.wi⟩
  ·rw[← hσ6,← hσ5]; simp
  ·rw[← hσ6]; simp
  ·simp only[CU.l,List.nodup_cons,List.mem_cons,List.not_mem_nil,or_false,not_or,List.nodup_nil,and_true,not_false_eq_true]
   omega
 ·intro j hj
  simp only[CU.l,List.mem_cons,List.not_mem_nil,or_false] at hj
  omega
end Go.Proofs.YtlaplcglpnlieaaGreat
end
section
namespace Go.Proofs.YtlaplcglpnlieaaGreat
open Go Go.AX
noncomputable local instance qLB:Bb:=Az
local instance zf:Kn:=⟨true⟩
variable {σ:Aa} {i:CU} {m:HM}
def B0 (m:HM):Prop:=(m.bls.getD 0 (0,0)).1=0
def BK (m:HM) (r:Int × HM):Prop:=(r.2.bls.getD 0 (0,0)).1=(m.bls.getD 0 (0,0)).1
theorem Jt {c:Prop} [Decidable c] {r r':Int × HM} (h:c→BK m r) (h':¬ c→BK m r'):BK m (if c then r else r'):=by
 split
 ·exact h ‹_›
 ·exact h' ‹_›
theorem uj {r:Int × HM} (h:r.2.bls=m.bls):BK m r:=by unfold BK; rw[h]
theorem bd (m:HM) (b c x y x' y':Int):BK m (Cw m b c x y x' y'):=by
 unfold Cw
 refine Jt (fun h1=>Jt (fun _=>?_) fun _=>rfl) fun _=>rfl
 unfold BK
 rw[List.getD_eq_getElem?_getD,List.getElem?_set,if_neg (by omega),← List.getD_eq_getElem?_getD,eX _ _ _ _ _ _ (by omega)]
theorem vL (m:HM) (x:Ye):BK m (lE m x):=by
 unfold lE
 refine Jt (fun _=>bd _ _ _ _ _ _ _) fun _=>Jt (fun _=>bd _ _ _ _ _ _ _) fun _=>Jt (fun _=>?_) fun _=>Jt (fun _=>?_) fun _=>Jt (fun _=>?_) fun _=>Jt (fun _=>?_) fun _=>Jt (fun _=>?_) fun _=>Jt (fun _=>?_) fun _=>Jt (fun _=>?_) fun _=>Jt (fun _=>?_) fun _=>Jt (fun _=>?_) fun _=>Jt (fun _=>?_) fun _=>Jt (fun _=>rfl) fun _=>rfl
 ·unfold Jb
  refine Jt (fun hh=>Jt (fun _=>?_) fun _=>rfl) fun _=>rfl
  obtain ⟨n,e,h1,_⟩:=Vq hh
  unfold BK
  rw[UB,if_neg (by omega)]
 ·unfold OR
  exact Jt (fun hh=>ch _ _ _ _ _) fun _=>rfl
 ·apply uj
  unfold CC
  split
  ·split <;> rfl
  ·rfl
 ·unfold Rh; exact Jt (fun _=>rfl) fun _=>rfl
 ·unfold jh; exact Jt (fun _=>Jt (fun _=>rfl) fun _=>rfl) fun _=>rfl
 ·unfold Yb; exact Jt (fun _=>Jt (fun _=>rfl) fun _=>rfl) fun _=>rfl
 ·unfold UH; exact Jt (fun _=>rfl) fun _=>rfl
 ·unfold jr; refine Jt (fun _=>?_) fun _=>rfl
  split
  ·rfl
  ·exact Jt (fun _=>rfl) fun _=>rfl
 ·unfold ir; exact Jt (fun _=>rfl) fun _=>rfl
 ·unfold ir; exact Jt (fun _=>rfl) fun _=>rfl
theorem B0.do (h:B0 m) (x:Ye):B0 (lE m x).2:=(vL m x).trans h
theorem B0.run:∀ (l:List Ye) (m:HM),B0 m→B0 (runM m l)
 | [],m,h=>h
 | x::l,m,h=>B0.run l _ (h.do x)
theorem B0.new (n:Nat):B0 (Qy n):=by
 unfold B0 Qy
 simp only[List.getD_eq_getElem?_getD,List.getElem?_replicate]
 split <;> rfl
theorem kK (k:Nat) (h:Ah σ i m) {b:Nat} (hb:b<m.bls.length):Cl (k+3) (BN i) (b:Int) σ=some (.bool (decide (1≤b∧(m.bls.getD b (0,0)).1=1)),σ):=by
 rw[MD,Mg]
 simp only[dN _ h,Option.bind_some,Ao]
 by_cases h1:1≤b
 ·rw[decide_eq_true (show 1≤(b:Int)∧(b:Int)<((m.bls.length:Nat):Int) by omega)]
  simp only[cond_true,Option.bind_some,Nat.zero_add,Nat.add_zero,h.SX]
  rw[if_pos (by omega)]
  simp only[Option.bind_some,Int.toNat_natCast,Nat.zero_add,(h.UP hb).1,h1,true_and]
  rfl
 ·rw[decide_eq_false (show ¬ (1≤(b:Int)∧(b:Int)<((m.bls.length:Nat):Int)) by omega)]
  simp[h1]
theorem kc (hI:Inv m) (hI2:Inv2 m) {b:Nat} (hs:(m.bls.getD b (0,0)).1=1) {j:Nat} (hj:Start m j) (h1:32*b≤j) (h2:j<32*b+32):sz m j≤32∧2*j+sz m j≤64*b+64:=by
 have hz:=hI.size hj
 obtain ⟨k1,k2⟩:=hI2.kind j hj
 have e:2*j/64=b:=by omega
 rw[e] at k1 k2
 by_cases hw:sz m j≤32
 ·have:=(k1 hw).2
  omega
 ·have:=(k2 (by omega)).1
  rw[hs] at this
  exact absurd this (by decide)
theorem UI {α:Type} {l:List α} {q:Nat} {x:α} (h:l[q]?=some x):l.set q x=l:=by
 apply List.ext_getElem?
 intro p
 rw[List.getElem?_set]
 split
 ·rename_i e
  subst e
  rw[if_pos (Af h),h]
 ·rfl
def ow (m:HM) (j l:Nat):Prop:=2*j % 64/8≤l∧l≤(2*j % 64+sz m j-1)/8
theorem cp (k:Nat) (hb:Nat) (e2 hi:Nat) (he:e2<64) (hh:e2/8=hi):∀ (n x f:Nat) (σ:Aa) (bs:List Bool),σ[hb]?=some (.cells (FJ bs) Dv true)→bs.length=8→x+n=hi+1→n<f →
  ∃ bs',D7 k f hb 8 (e2:Int) (x:Int) σ=some (.exit 2,[],σ.set hb (.cells (FJ bs') Dv true))∧bs'.length=8∧(∀ t,bs'.getD t false=(bs.getD t false || decide (x≤t∧t≤hi)))
 | 0,x,0,σ,bs,hc,hl,hx,hf=>by omega
 | 0,x,f+1,σ,bs,hc,hl,hx,hf=>by
   rw[JM,IF]
   have w:Ae ((e2:Int).tdiv 8)=(hi:Int):=by rw[show ((e2:Int)).tdiv 8=((e2/8:Nat):Int) from rfl,hh]; exact Ad (by unfold AV; omega)
   have q:decide ((x:Int)≤(hi:Int))=false:=decide_eq_false (by omega)
   refine ⟨bs, ?_,hl,fun t=>?_⟩
   ·simp only[w,q,cond_false]
    rw[if_neg (by decide),UI hc]
   ·rw[decide_eq_false (by omega),Bool.or_false]
 | n+1,x,0,σ,bs,hc,hl,hx,hf=>by omega
 | n+1,x,f+1,σ,bs,hc,hl,hx,hf=>by
   have hx8:x<bs.length:=by omega
   have hs:Gn σ hb x (.bool true)=_:=wx true hc hx8
   have hlt:=Af hc
   obtain ⟨bs',e,l',g⟩:=cp k hb e2 hi he hh n (x+1) f (σ.set hb (.cells (FJ (bs.set x true)) Dv true)) (bs.set x true) (List.getElem?_set_self hlt) (by simpa using hl) (by omega) (by omega)
   refine ⟨bs', ?_,l',fun t=>?_⟩
   ·rw[JM,IF]
    have w:Ae ((e2:Int).tdiv 8)=(hi:Int):=by rw[show ((e2:Int)).tdiv 8=((e2/8:Nat):Int) from rfl,hh]; exact Ad (by unfold AV; omega)
    have q:decide ((x:Int)≤(hi:Int))=true:=decide_eq_true (by omega)
    have w1:Ae ((x:Int)+1)=((x+1:Nat):Int):=Ad (by unfold AV; omega)
    simp only[w,q,cond_true]
    rw[if_neg (by decide),if_pos (by omega)]
    simp only[Int.toNat_natCast,Nat.zero_add,Nat.mul_one,hs,Option.bind_some,w1,e,List.set_set]
   ·rw[g t,qH bs x t true hx8]
    by_cases ht:t=x
    ·subst ht; simp; omega
    ·rw[if_neg ht]
     congr 1
     exact decide_eq_decide.2 (by omega)
theorem cn (k:Nat) (hk:100≤k) (hI:Inv m) (hI2:Inv2 m) {b:Nat} (hbl:b<m.bls.length) (hst:(m.bls.getD b (0,0)).1=1) (hb:Nat) (hnb:hb ∉ i.l) (L:List Nat) (hL:∀ j ∈ L,Start m j∧32*b≤j∧j<32*b+32) (hLl:L.length≤32) (lo:Nat) (s:EJ) (hsb:∀ a,s.1=some a→a.block≠hb):∀ (n x f:Nat) (σ:Aa) (bs:List Bool),Ah σ i m→σ[hb]?=some (.cells (FJ bs) Dv true)→Dl lo σ s (CK L)→bs.length=8→x+n=L.length→n<f →
  ∃ σ' bs',D6 (k+3) f (BN i) hb 8 s.1 s.2.1 s.2.2 (L.length:Int) (x:Int) σ=some (.exit 0,[],σ')∧Ah σ' i m∧σ'[hb]?=some (.cells (FJ bs') Dv true)∧bs'.length=8∧(∀ t,bs'.getD t false=true↔bs.getD t false=true ∨ ∃ j ∈ L.drop x,ow m j t)∧σ.length≤σ'.length ∧ ∀ q,q<σ.length→q≠hb→σ'[q]?=σ[q]?
 | 0,x,0,σ,bs,h,hc,hs,hl,hx,hf=>by omega
 | 0,x,f+1,σ,bs,h,hc,hs,hl,hx,hf=>by
   rw[JL,IE]
   have q:decide ((x:Int)<(L.length:Int))=false:=decide_eq_false (by omega)
   refine ⟨σ,bs,by simp only[q,cond_false],h,hc,hl,fun t=>?_,Nat.le_refl _,fun _ _ _=>rfl⟩
   rw[List.drop_eq_nil_of_le (by omega)]
   simp
 | n+1,x,0,σ,bs,h,hc,hs,hl,hx,hf=>by omega
 | n+1,x,f+1,σ,bs,h,hc,hs,hl,hx,hf=>by
   have hxl:x<L.length:=by omega
   obtain ⟨j1,j2,j3⟩:=hL _ (List.getElem_mem hxl)
   have hj:=j1.1
   have ht:=h.nt
   obtain ⟨z1,z2⟩:=kc hI hI2 hst j1 j2 j3
   have hz:=hI.size j1
   have al:(CK L).length=L.length:=by simp[CK]
   obtain ⟨τ,e⟩:=aE k h hj
   obtain ⟨jx,hjx⟩:∃ jx,L[x]=jx:=⟨_,rfl⟩
   rw[hjx] at j1 j2 j3 hj z1 z2 hz e
   have hc1:(σ++τ)[hb]?=some (.cells (FJ bs) Dv true):=by rw[List.getElem?_append_left (Af hc)]; exact hc
   obtain ⟨bs1,e1,l1,g1⟩:=cp (k+3) hb (2*jx % 64+sz m jx-1) ((2*jx % 64+sz m jx-1)/8) (by omega) rfl ((2*jx % 64+sz m jx-1)/8+1-2*jx % 64/8) (2*jx % 64/8) (k+3) (σ++τ) bs hc1 hl (by omega) (by omega)
   obtain ⟨σ1,hσ1⟩:∃ σ1,(σ++τ).set hb (.cells (FJ bs1) Dv true)=σ1:=⟨_,rfl⟩
   rw[hσ1] at e1
   have hlt:=Af hc1
   have len1:σ1.length=σ.length+τ.length:=by rw[← hσ1]; simp
   have same1:∀ q,q<σ.length→q≠hb→σ1[q]?=σ[q]?:=fun q hq hne=>by
    rw[← hσ1,List.getElem?_set_ne (Ne.symm hne),List.getElem?_append_left hq]
   have h1:Ah σ1 i m:=h.Cx fun q hq=>same1 q (h.lt q hq) (fun e=>hnb (e ▸ hq))
   have c1:σ1[hb]?=some (.cells (FJ bs1) Dv true):=by rw[← hσ1]; exact List.getElem?_set_self hlt
   have s1:Dl lo σ1 s (CK L):=by
    rcases hs with hs | ⟨q,a1,rfl,a3,a4⟩
    ·exact .inl hs
    ·exact .inr ⟨q,a1,rfl,a3,by rw[same1 q (Af a4) (hsb _ rfl)]; exact a4⟩
   obtain ⟨σ2,bs2,e2,h2,c2,l2,g2,len2,same2⟩:=cn k hk hI hI2 hbl hst hb hnb L hL hLl lo s hsb n (x+1) f σ1 bs1 h1 c1 s1 l1 (by omega) (by omega)
   refine ⟨σ2,bs2, ?_,h2,c2,l2,fun t=>?_,by omega,fun q hq hne=>(same2 q (by omega) hne).trans (same1 q hq hne)⟩
   ·have hs':=hs
    rcases hs with ⟨he,_⟩ | ⟨q,hb1,rfl,hb2,hb3⟩
    ·rw[he] at al; simp at al; omega
    rw[JL,IE]
    have q0:decide ((x:Int)<(L.length:Int))=true:=decide_eq_true (by omega)
    have w1:Ae ((x:Int)+1)=((x+1:Nat):Int):=Ad (by unfold AV; omega)
    have vt:Ak .i64 σ q x=some ((2*jx:Nat):Int):=by
     rw[hs'.ld (by omega),RB L hxl,hjx]
    have m1:(((2*jx:Nat):Int)).tmod 64=((2*jx % 64:Nat):Int):=rfl
    have m2:Ae ((((2*jx % 64:Nat):Int)).tdiv 8)=((2*jx % 64/8:Nat):Int):=by rw[show ((((2*jx % 64:Nat):Int)).tdiv 8)=((2*jx % 64/8:Nat):Int) from rfl]; exact Ad (by unfold AV; omega)
    have m3:Ae (((2*jx % 64:Nat):Int)+(sz m jx:Int))=((2*jx % 64+sz m jx:Nat):Int):=by rw[Ad (by unfold AV; omega)]; omega
    have m4:Ae (((2*jx % 64+sz m jx:Nat):Int)-1)=((2*jx % 64+sz m jx-1:Nat):Int):=by rw[Ad (by unfold AV; omega)]; omega
    simp only[q0,cond_true]
    rw[if_pos (by omega)]
    simp only[Option.bind_some,Nat.zero_add,Int.toNat_natCast,Nat.mul_one,vt,show ((64:Int)=0)=False from by decide,show ((8:Int)=0)=False from by decide,if_false,e,Am,m1,m2,m3,m4,e1,if_true,w1]
    exact e2
   ·rw[g2 t,List.drop_eq_getElem_cons hxl,hjx]
    have:=g1 t
    constructor
    ·rintro (a | ⟨j,a1,a2⟩)
     ·rw[this,Bool.or_eq_true,decide_eq_true_eq] at a
      rcases a with a | a
      ·exact .inl a
      ·exact .inr ⟨jx,List.mem_cons_self,a⟩
     ·exact .inr ⟨j,List.mem_cons_of_mem _ a1,a2⟩
    ·rintro (a | ⟨j,a1,a2⟩)
     ·left; rw[this,a]; rfl
     ·rcases List.mem_cons.1 a1 with rfl | a1
      ·left; rw[this,Bool.or_eq_true,decide_eq_true_eq]; exact .inr a2
      ·exact .inr ⟨j,a1,a2⟩
theorem Dl.ge {lo:Nat} {s:EJ} {l:List Int} (h:Dl lo σ s l):∀ a,s.1=some a→lo≤a.block∧a.block<σ.length:=by
 rcases h with ⟨_,rfl⟩ | ⟨b,h1,rfl,_,h2⟩
 ·intro a e; cases e
 ·intro a e; cases e; exact ⟨h1,Af h2⟩
theorem rT (k:Nat) (h:Ah σ i m) {b:Nat} (hb:b<m.bls.length) (hn:¬ (1≤b∧(m.bls.getD b (0,0)).1=1)):CX (k+4) (BN i) (b:Int) σ=some (.slice none 0 0,σ):=by
 rw[IL,ID]
 simp only[kK _ h hb,Option.bind_some,Ao,decide_eq_false hn,Bool.not_false,cond_true]
theorem rU (k:Nat) (hk:5000≤k) (h:Ah σ i m) (hI:Inv m) (hI2:Inv2 m) {b:Nat} (hb:b<m.bls.length) (h1:1≤b) (hst:(m.bls.getD b (0,0)).1=1):
  ∃ τ bs,CX (k+7) (BN i) (b:Int) σ=some (.slice (some ⟨σ.length,0,none⟩) 8 8,σ++τ)∧(σ++τ)[σ.length]?=some (.cells (FJ bs) Dv true)∧bs.length=8∧(∀ t,bs.getD t false=true ↔ ∃ j ∈ Cb m (32*b) 32,ow m j t):=by
 have hu:Cl (k+6) (BN i) (b:Int) σ=_:=kK (k+3) h hb
 obtain ⟨σ1,hσ1⟩:∃ σ1,σ++[AJ.cells (FJ (List.replicate 8 false)) Dv true]=σ1:=⟨_,rfl⟩
 have h1':Ah σ1 i m:=hσ1 ▸ h.app _
 have c1:σ1[σ.length]?=some (.cells (FJ (List.replicate 8 false)) Dv true):=by rw[← hσ1]; simp
 obtain ⟨τ2,s,e2,i2⟩:=UT k hk h1' hb
 have hL:∀ j ∈ Cb m (32*b) 32,Start m j∧32*b≤j∧j<32*b+32:=by
  intro j hj
  obtain ⟨a,b',c⟩:=KD.1 hj
  exact ⟨⟨by omega,c⟩,a,b'⟩
 have hnb:σ.length ∉ i.l:=fun hm=>Nat.lt_irrefl _ (h.lt _ hm)
 have hlen1:σ1.length=σ.length+1:=by rw[← hσ1]; simp
 obtain ⟨σ3,bs,e3,h3,c3,l3,g3,len3,same3⟩:=cn (k+3) (by omega) hI hI2 hb hst σ.length hnb _ hL (KK m _ _) σ1.length s (fun a ha=>by have:=(i2.ge a ha).1; omega) (Cb m (32*b) 32).length 0 (k+6) (σ1++τ2) (List.replicate 8 false) (h1'.app τ2)
  (by rw[List.getElem?_append_left (Af c1)]; exact c1) i2 rfl (by omega) (by have:=KK m (32*b) 32; omega)
 have hl2:σ.length≤σ3.length:=by simp at len3; omega
 have eσ:σ3=σ++σ3.drop σ.length:=by
  apply List.ext_getElem?
  intro q
  by_cases hq:q<σ.length
  ·rw[List.getElem?_append_left hq,same3 q (by simp; omega) (by omega),List.getElem?_append_left (by omega),← hσ1,List.getElem?_append_left hq]
  ·rw[List.getElem?_append_right (by omega),List.getElem?_drop]
   rw[show σ.length+(q-σ.length)=q from by omega]
 refine ⟨σ3.drop σ.length,bs, ?_,by rw[← eσ]; exact c3,l3,fun t=>?_⟩
 ·rw[IL,ID]
  have hl:=i2.len
  rw[show (CK (Cb m (32*b) 32)).length=(Cb m (32*b) 32).length from by simp[CK]] at hl
  simp only[hu,Option.bind_some,Ao,decide_eq_true (And.intro h1 hst),Bool.not_true,cond_false]
  have q8:(0≤(8:Int)∧(8:Int)≤(8:Int)∧(8:Int)*((1:Nat):Int)≤2 ^ 40∧(8:Int)≤2 ^ 40)=True:=eq_true (⟨by omega,by omega,by omega,by omega⟩)
  simp only[q8,if_true,An,show (8:Int).toNat=8 from rfl,tA,hσ1,e2,Option.bind_some,Gp,hl]
  rw[show ((0:Nat):Int)=0 from rfl,hl] at e3
  simp only[e3,Option.bind_some,if_true]
  rw[← eσ]
 ·rw[g3 t,List.drop_zero]
  constructor
  ·rintro (a | a)
   ·rw[List.getD_eq_getElem?_getD,List.getElem?_replicate] at a
    split at a <;> cases a
   ·exact a
  ·exact .inr
end Go.Proofs.YtlaplcglpnlieaaGreat
end
section
namespace Go.Proofs.YtlaplcglpnlieaaGreat
open Go Go.AX
noncomputable local instance z7:Bb:=Az
local instance yy:Kn:=⟨true⟩
variable {σ:Aa} {i:CU} {m:HM}
def BU (E:TypeId) (s:Nat) (σ:Aa) (sl:EJ) (n:Nat) (row:List Value):Prop:=
 (n=0∧row=[]∧sl=(none,0,0)) ∨ ∃ b,sl=(some ⟨b,0,none⟩,n,n)∧0≤n∧row.length=n*s∧σ[b]?=some (.cells row E true)
theorem BU.len {E:TypeId} {s n:Nat} {sl:EJ} {row:List Value} (h:BU E s σ sl n row):sl.2.1=n:=by
 rcases h with ⟨rfl,_,rfl⟩ | ⟨b,rfl,_⟩ <;> rfl
theorem BU.form {E:TypeId} {s n:Nat} {sl:EJ} {row:List Value} (h:BU E s σ sl n row):sl=(sl.1,n,n):=by
 rcases h with ⟨rfl,_,rfl⟩ | ⟨b,rfl,_⟩ <;> rfl
theorem BU.nil (E:TypeId) (s:Nat) (σ:Aa):BU E s σ (none,0,0) 0 []:=.inl ⟨rfl,rfl,rfl⟩
theorem BU.Cx {E:TypeId} {s n:Nat} {σ':Aa} {sl:EJ} {row:List Value} (h:BU E s σ sl n row) (hs:∀ a,sl.1=some a→σ'[a.block]?=σ[a.block]?):BU E s σ' sl n row:=by
 rcases h with h | ⟨b,rfl,h1,h2,h3⟩
 ·exact .inl h
 ·exact .inr ⟨b,rfl,h1,h2,by rw[hs _ rfl]; exact h3⟩
theorem BU.lt {E:TypeId} {s n:Nat} {sl:EJ} {row:List Value} (h:BU E s σ sl n row):∀ a,sl.1=some a→a.block<σ.length:=by
 rcases h with ⟨_,_,rfl⟩ | ⟨b,rfl,h1,h2,h3⟩
 ·intro a e; cases e
 ·intro a e; cases e; exact Af h3
theorem BU.app {E:TypeId} {s n:Nat} {sl:EJ} {row:List Value} (h:BU E s σ sl n row) (τ:Aa):BU E s (σ++τ) sl n row:=
 h.Cx fun a ha=>List.getElem?_append_left (h.lt a ha)
theorem Dl.sl {lo:Nat} {s:EJ} {l:List Int} (h:Dl lo σ s l):BU AP 1 σ s l.length (CN l):=by
 rcases h with ⟨rfl,rfl⟩ | ⟨b,h1,rfl,h3,h4⟩
 ·exact .inl ⟨rfl,rfl,rfl⟩
 ·exact .inr ⟨b,rfl,Nat.zero_le _,by rw[GW,Nat.mul_one],h4⟩
theorem UW {E:TypeId} {s by_:Nat} {z:Value} (hs:Ik P E=some s) (hb:bytesOf P E=some by_) (hz:Fj P E=some z) (hz1:IZ z=false) (hz2:z.cells.size=s) (hs0:0<s) (hb0:0<by_) (hb1:by_≤1000)
  (σ:Aa) (sl:EJ) (n:Nat) (row:List Value) (src:Option Addr) (n' c:Nat) (row':List Value) (hn:n+n'≤1000000) (hn0:0<n') (hr:row'.length=n'*s) (hsl:BU E s σ sl n row) (hx:Fu σ s src n'=some row'):
  ∃ s' σ',Be P E sl (src,n',c) σ=some (s',σ')∧H6 σ sl σ' s'∧BU E s σ' s' (n+n') (row++row'):=by
 unfold Be Td
 simp only[hs,hb,hz,Option.bind_some,hx]
 have h1:(¬ (IZ z=false∧some s=some z.cells.size∧0<z.cells.size))=False:=by
  rw[hz1,hz2]; simp[hs0]
 simp only[h1,if_false]
 have hm:(n+n')*by_≤1000000*1000:=Nat.mul_le_mul hn hb1
 have r:SF (n+n') by_∧0<by_:=⟨⟨by omega,by omega⟩,hb0⟩
 rcases hsl with ⟨rfl,rfl,rfl⟩ | ⟨b,rfl,hp,hl,hcell⟩
 ·simp only[show ¬ (0+n'≤0) from by omega,if_false,r,and_self,if_true,LS,cond_true,tS]
  refine ⟨_,_,rfl,⟨by simp,fun q hq _=>List.getElem?_append_left hq,.inr fun a ha=>by cases ha; exact Nat.le_refl _⟩,.inr ⟨σ.length,by simp,by omega,by simpa using hr,by simp⟩⟩
 ·have hb2:=Af hcell
  have e1:elemAt σ b=some E:=by simp[elemAt,hcell]
  have e2:R5 σ b 0 (n*s)=some row:=by
   simp only[R5,hcell,hl,Nat.zero_add,Nat.le_refl,if_true,List.drop_zero]
   rw[List.take_of_length_le (Nat.le_of_eq hl)]
  have e3:Kg σ b=true:=by simp[Kg,hcell]
  simp only[show ¬ (n+n'≤n) from by omega,if_false,r,and_self,if_true,LS,Option.isSome_none,cond_false,Option.bind_some,e1,e2,e3,cond_true,tS]
  refine ⟨_,_,rfl,⟨by simp,fun q hq hn=>?_,.inr fun a ha=>?_⟩,.inr ⟨σ.length,rfl,by omega,by rw[List.length_append,hl,hr,Nat.add_mul],by simp⟩⟩
  ·rw[List.getElem?_append_left (by simpa using hq),List.getElem?_set_ne (hn _ rfl)]
  ·cases ha; exact Nat.le_refl _
theorem ak {E:TypeId} {s by_:Nat} {z:Value} (hs:Ik P E=some s) (hb:bytesOf P E=some by_) (hz:Fj P E=some z) (hz1:IZ z=false) (hz2:z.cells.size=s) (hs0:0<s) (hb0:0<by_) (hb1:by_≤1000)
  (σ:Aa) (sl:EJ) (n:Nat) (row:List Value) (n' c:Nat) (row':List Value) (T:TypeId) (hn:n+n'≤1000000) (hn0:0<n') (hr:row'.length=n'*s) (hsl:BU E s σ sl n row):
  ∃ s' σ',Be P E sl (some ⟨σ.length,0,none⟩,n',c) (σ++[.cells row' T true])=some (s',σ')∧H6 σ sl σ' s'∧BU E s σ' s' (n+n') (row++row'):=by
 obtain ⟨s',σ',e,g,h⟩:=UW hs hb hz hz1 hz2 hs0 hb0 hb1 (σ++[.cells row' T true]) sl n row (some ⟨σ.length,0,none⟩) n' c row' hn hn0 hr (hsl.app _) (by
  simp only[Fu,R5,List.getElem?_concat_length,hr,Nat.zero_add,Nat.le_refl,if_true,List.drop_zero]
  rw[List.take_of_length_le (Nat.le_of_eq hr)])
 exact ⟨s',σ',e,(H6.app _ _ _).trans g,h⟩
theorem ints_at {lo:Nat} {s:EJ} {l:List Int} (h:Dl lo σ s l) {x:Nat} (hx:x<l.length):∃ b,s=(some ⟨b,0,none⟩,l.length,l.length)∧lo≤b∧σ[b]?=some (.cells (CN l) AP true)∧Ak .i64 σ b x=some (l.getD x 0):=by
 rcases h with ⟨he,_⟩ | ⟨b,h1,h2,h3,h4⟩
 ·rw[he] at hx; simp at hx
 ·refine ⟨b,h2,h1,h4, ?_⟩
  have h':Dl lo σ (some ⟨b,0,none⟩,l.length,l.length) l:=.inr ⟨b,h1,rfl,h3,h4⟩
  exact h'.ld hx
theorem sX {b x:Nat} {l:List Int} {T:TypeId} {rw':Bool} (h:σ[b]?=some (.cells (CN l) T rw')) (hx:x<l.length):Ak .i64 σ b x=some (l.getD x 0):=by
 simp only[Ak,Gr,h]
 simp[CN,List.getElem?_map,List.getElem?_eq_getElem hx,List.getD_eq_getElem?_getD,Bu]
theorem sm (hI:Inv m) (hI2:Inv2 m) {j q:Nat} (hj:Start m j) (h1:2*j≤q) (h2:q<2*j+sz m j) (hs:(m.bls.getD (q/64) (0,0)).1=1):2*j/64=q/64:=by
 have hz:=hI.size hj
 obtain ⟨k1,k2⟩:=hI2.kind j hj
 by_cases hw:sz m j≤32
 ·have:=(k1 hw).2
  omega
 ·obtain ⟨p1,p2,p3⟩:=k2 (by omega)
  rcases Nat.lt_or_ge (2*j/64) (q/64) with hlt | hge
  ·have:=p3 (q/64) hlt (by omega)
   rw[hs] at this; exact absurd this (by decide)
  ·omega
theorem XL (hI:Inv m) {j:Nat} (hs:Start m j):m.wds.getD (2*j+1) 0=AQ m j+16*BB m j+4096*EG m j∧0≤AQ m j∧AQ m j≤15∧0≤BB m j∧BB m j≤200∧0≤EG m j∧EG m j≤3∧words (AQ m j) (BB m j) (EG m j)=(sz m j:Int):=by
 obtain ⟨r,d,k,hv,he⟩:=hI.good j hs
 obtain ⟨p1,p2,p3,_⟩:=PG hv
 have e1:AQ m j=r:=by unfold AQ; rw[he,p1]
 have e2:BB m j=d:=by unfold BB; rw[he,p2]
 have e3:EG m j=k:=by unfold EG; rw[he,p3]
 have hw:words (AQ m j) (BB m j) (EG m j)=(sz m j:Int):=by
  unfold sz
  rw[kG]; rfl
 rw[e1,e2,e3] at *
 refine ⟨he, ?_⟩
 simp[valid] at hv
 refine ⟨hv.1,hv.2.1,hv.2.2.1,hv.2.2.2.1,hv.2.2.2.2.1,hv.2.2.2.2.2.1,hw⟩
theorem Ya {m m':HM}:∀ (n a a':Nat),(∀ q,q<n→m'.wds.getD (a'+q) 0=m.wds.getD (a+q) 0)→Om m' a' n=Om m a n
 | 0,a,a',h=>rfl
 | n+1,a,a',h=>by
   rw[UG,UG,Ya n (a+1) (a'+1) (fun q hq=>by have:=h (q+1) (by omega); rw[show a'+1+q=a'+(q+1) from by omega,show a+1+q=a+(q+1) from by omega]; exact this)]
   have:=h 0 (by omega)
   rw[Nat.add_zero,Nat.add_zero] at this
   rw[this]
theorem aA (m:HM):∀ (n a q:Nat),q<n→(Om m a n)[q]?=some (m.wds.getD (a+q) 0)
 | 0,a,q,h=>by omega
 | n+1,a,0,h=>by rw[UG]; rfl
 | n+1,a,q+1,h=>by rw[UG,List.getElem?_cons_succ,aA m n (a+1) q (by omega),show a+1+q=a+(q+1) from by omega]
def aX (m:HM):Nat→Nat→Bool
 | _,0=>false
 | a,n+1=>(Rg m a).isSome || aX m (a+1) n
theorem kZ:∀ (n a:Nat),aX m a n=true ↔ ∃ q,a≤q∧q<a+n∧(Rg m q).isSome=true
 | 0,a=>by simp[aX]; intro q h1 h2; omega
 | n+1,a=>by
   rw[aX,Bool.or_eq_true,kZ n (a+1)]
   constructor
   ·rintro (h | ⟨q,h1,h2,h3⟩)
    ·exact ⟨a,Nat.le_refl _,by omega,h⟩
    ·exact ⟨q,by omega,by omega,h3⟩
   ·rintro ⟨q,h1,h2,h3⟩
    rcases Nat.eq_or_lt_of_le h1 with rfl | h1
    ·exact .inl h3
    ·exact .inr ⟨q,h1,by omega,h3⟩
theorem ta (hI:Inv m) (hI2:Inv2 m) (hw:m.wds.length=64*m.bls.length) {b t:Nat} (hb:b<m.bls.length) (hst:(m.bls.getD b (0,0)).1=1) (ht:t<8):(∃ j ∈ Cb m (32*b) 32,ow m j t)↔aX m (64*b+8*t) 8=true:=by
 rw[kZ]
 constructor
 ·rintro ⟨j,hj,l1,l2⟩
  obtain ⟨a1,a2,a3⟩:=KD.1 hj
  have hs:Start m j:=⟨by omega,a3⟩
  have hz:=hI.size hs
  obtain ⟨z1,z2⟩:=kc hI hI2 hst hs a1 a2
  have e:2*j % 64=2*j-64*b:=by omega
  rw[e] at l1 l2
  refine ⟨max (2*j) (64*b+8*t),by omega,by omega, ?_⟩
  rw[hI.Ob hs (by omega) (by omega)]; rfl
 ·rintro ⟨q,h1,h2,h3⟩
  obtain ⟨j,hj⟩:=Option.isSome_iff_exists.1 h3
  obtain ⟨s1,_,s3,s4⟩:=Sx hj
  have hq:q/64=b:=by omega
  have hb':=sm hI hI2 s1 s4 s3 (by rw[hq]; exact hst)
  have hz:=hI.size s1
  refine ⟨j,KD.2 ⟨by omega,by omega,s1.2⟩, ?_, ?_⟩
  ·have e:2*j % 64=2*j-64*b:=by omega
   rw[e]; omega
  ·have e:2*j % 64=2*j-64*b:=by omega
   rw[e]; omega
end Go.Proofs.YtlaplcglpnlieaaGreat
end
section
namespace Go.Proofs.YtlaplcglpnlieaaGreat
open Go Go.AX
noncomputable local instance z8:Bb:=Az
local instance yz:Kn:=⟨true⟩
variable {σ:Aa} {i:CU} {m:HM}
def Bh:List (Nat × Nat)→List Value
 | []=>[]
 | r::l=>.int .i64 (r.1:Int) :: .int .i64 (r.2:Int)::Bh l
theorem N7:∀ l,(Bh l).length=l.length*2
 | []=>rfl
 | r::l=>by simp[Bh,N7 l,Nat.add_mul]
theorem LY:∀ l l',Bh (l++l')=Bh l++Bh l'
 | [],l'=>rfl
 | r::l,l'=>by simp[Bh,LY l l']
theorem Zv:∀ (l:List (Nat × Nat)) (x:Nat),x<l.length→(Bh l)[x*2]?=some (.int .i64 ((l.getD x (0,0)).1:Int))∧(Bh l)[x*2+1]?=some (.int .i64 ((l.getD x (0,0)).2:Int))
 | [],x,h=>by simp at h
 | r::l,0,h=>by simp[Bh]
 | r::l,x+1,h=>by
   have ih:=Zv l x (by simpa using h)
   rw[show (x+1)*2=x*2+1+1 from by omega]
   simpa [Bh,List.getElem?_cons_succ] using ih
def Kh (a e:Nat):List (Nat × Nat):=if a<e then [(a,e-a)] else []
def ET (m:HM):List Nat→Nat→List (Nat × Nat) × Nat
 | [],a=>([],a)
 | j::L,a=>(Kh a (2*j)++(ET m L (2*j+sz m j)).1,(ET m L (2*j+sz m j)).2)
def fy (m:HM) (b:Nat):List (Nat × Nat):=(ET m (Cb m (32*b) 32) (64*b)).1++Kh (ET m (Cb m (32*b) 32) (64*b)).2 (64*b+64)
def iU (m:HM) (b:Nat):List (Nat × Nat):=if 1≤b∧(m.bls.getD b (0,0)).1=1 then fy m b else []
theorem kF:Ik P Aj=some 2:=by kernel_rfl
theorem jU:bytesOf P Aj=some 16:=by kernel_rfl
theorem kM:Fj P Aj=some (.agg #[.int .i64 0,.int .i64 0]):=by kernel_rfl
structure Z4 (lo h5 h3:Nat) (σ:Aa) (a:Nat) (o:EJ) (R:List (Nat × Nat)):Prop where
 at_:σ[h5]?=some (.cells [.int .i64 (a:Int)] AP true)
 out:σ[h3]?=some (.cells [.slice o.1 o.2.1 o.2.2] VC true)
 sl:BU Aj 2 σ o R.length (Bh R)
 new:∀ a,o.1=some a→lo≤a.block
 l5:h5<lo
 l3:h3<lo
 ne:h5≠h3
 ll:lo≤σ.length
theorem Z4.Cx {lo h5 h3 a:Nat} {σ σ':Aa} {o:EJ} {R:List (Nat × Nat)} (h:Z4 lo h5 h3 σ a o R) (hs:∀ q,q<σ.length→σ'[q]?=σ[q]?) (hl:σ.length≤σ'.length):Z4 lo h5 h3 σ' a o R:=
 ⟨(hs _ (Af h.at_)).trans h.at_,(hs _ (Af h.out)).trans h.out,h.sl.Cx fun a ha=>hs _ (h.sl.lt a ha),h.new,h.l5,h.l3,h.ne,Nat.le_trans h.ll hl⟩
theorem sH (k:Nat) {lo h5 h3 a x:Nat} {o:EJ} {R:List (Nat × Nat)} (h:Z4 lo h5 h3 σ a o R) (hR:R.length≤5000) (ha:a≤5000) (hx:x≤5000):
  ∃ σ' o',CO (k+1) (x:Int) (some ⟨h5,0,none⟩) (some ⟨h3,0,none⟩) σ=some (.tuple #[],σ')∧Z4 lo h5 h3 σ' a o' (R++Kh a x)∧(∀ q,q<lo→q≠h3→σ'[q]?=σ[q]?)∧σ.length≤σ'.length:=by
 have lA:Ak .i64 σ h5 0=some (a:Int):=by simp[Ak,Gr,h.at_,Bu]
 have lO:Cr σ h3 0=some (o.1,o.2.1,o.2.2):=by simp[Cr,Gr,h.out,Gp]
 by_cases hc:a<x
 ·obtain ⟨o1,σ1,e1,g1,s1⟩:=ak kF jU kM rfl rfl (by decide) (by decide) (by decide) σ o R.length (Bh R) 1 1 (Bh [(a,x-a)]) Aj (by omega) (by decide) rfl h.sl
  have e1':Be P Aj (o.1,o.2.1,o.2.2) (some ⟨σ.length,0,none⟩,1,1) (σ++[AJ.cells [.int .i64 (a:Int),.int .i64 ((x-a:Nat):Int)] Aj true])=some (o1,σ1):=e1
  have hnO:∀ q,q<lo → ∀ a',o.1=some a'→a'.block≠q:=fun q hq a' ha'=>by have:=h.new a' ha'; omega
  have k3:=(g1.same h3 (Af h.out) (hnO h3 h.l3)).trans h.out
  have k5:=(g1.same h5 (Af h.at_) (hnO h5 h.l5)).trans h.at_
  obtain ⟨σ2,hσ2⟩:∃ σ2,σ1.set h3 (.cells [.slice o1.1 o1.2.1 o1.2.2] VC true)=σ2:=⟨_,rfl⟩
  have est:Gn σ1 h3 0 (.slice o1.1 o1.2.1 o1.2.2)=some σ2:=by
   rw[← hσ2]; simp[Gn,k3]
  have same2:∀ q,q≠h3→σ2[q]?=σ1[q]?:=fun q hq=>by rw[← hσ2,List.getElem?_set_ne (Ne.symm hq)]
  have hll:=h.ll
  have hn1:∀ a',o1.1=some a'→lo≤a'.block:=by
   intro a' ha'
   rcases g1.new with e | e
   ·rw[e] at ha'; exact h.new a' ha'
   ·have:=e a' ha'; omega
  refine ⟨σ2,o1, ?_,⟨(same2 _ h.ne).trans k5,by rw[← hσ2,List.getElem?_set_self (Af k3)], ?_,hn1,h.l5,h.l3,h.ne, ?_⟩, ?_, ?_⟩
  ·rw[Kx,Jx]
   have q:decide ((x:Int)>(a:Int))=true:=decide_eq_true (by omega)
   have w:Ae ((x:Int)-(a:Int))=((x-a:Nat):Int):=by rw[Ad (by unfold AV; omega)]; omega
   simp only[Option.bind_some,lA,q,cond_true,lO,An,w,e1',est,if_true]
  ·unfold Kh
   rw[if_pos hc,LY,List.length_append]
   exact s1.Cx fun a' ha'=>same2 _ (fun e=>by have:=hn1 a' ha'; have:=h.l3; omega)
  ·rw[← hσ2]; have:=g1.len; simp; omega
  ·intro q hq hne
   rw[same2 q hne,g1.same q (by omega) (hnO q hq)]
  ·rw[← hσ2]; have:=g1.len; simp; omega
 ·refine ⟨σ,o, ?_, ?_,fun _ _ _=>rfl,Nat.le_refl _⟩
  ·rw[Kx,Jx]
   have q:decide ((x:Int)>(a:Int))=false:=decide_eq_false (by omega)
   simp only[Option.bind_some,lA,q,cond_false,if_true]
  ·unfold Kh
   rw[if_neg hc,List.append_nil]
   exact h
theorem dS (k:Nat) (L:List Nat) (hL:∀ j ∈ L,Start m j) (hLl:L.length≤2048) (hwl:∀ j ∈ L,2*j+sz m j≤5000) {lo h5 h3 lo':Nat} (s:EJ) (hs3:∀ a,s.1=some a→a.block<lo∧a.block≠h3∧a.block≠h5) (hi:∀ j ∈ i.l,j<lo∧j≠h3∧j≠h5):∀ (n x f:Nat) (σ:Aa) (a:Nat) (o:EJ) (R:List (Nat × Nat)),Ah σ i m→Z4 lo h5 h3 σ a o R→Dl lo' σ s (CK L)→R.length≤x→a≤5000→x+n=L.length→n<f →
  ∃ σ' o',Dr (k+3) f (BN i) h5 h3 s.1 s.2.1 s.2.2 (L.length:Int) (x:Int) σ=some (.exit 0,[],σ')∧Ah σ' i m∧Z4 lo h5 h3 σ' (ET m (L.drop x) a).2 o' (R++(ET m (L.drop x) a).1)∧(∀ q,q<lo→q≠h3→q≠h5→σ'[q]?=σ[q]?)∧σ.length≤σ'.length∧(ET m (L.drop x) a).2≤5000∧(R++(ET m (L.drop x) a).1).length≤L.length
 | 0,x,0,σ,a,o,R,h,hg,hs,hr,ha,hx,hf=>by omega
 | 0,x,f+1,σ,a,o,R,h,hg,hs,hr,ha,hx,hf=>by
   rw[Ky,Jy,List.drop_eq_nil_of_le (by omega)]
   have q:decide ((x:Int)<(L.length:Int))=false:=decide_eq_false (by omega)
   exact ⟨σ,o,by simp only[q,cond_false],h,by simpa [ET] using hg,fun _ _ _ _=>rfl,Nat.le_refl _,ha,by simp[ET]; omega⟩
 | n+1,x,0,σ,a,o,R,h,hg,hs,hr,ha,hx,hf=>by omega
 | n+1,x,f+1,σ,a,o,R,h,hg,hs,hr,ha,hx,hf=>by
   have al:(CK L).length=L.length:=by simp[CK]
   have hxl:x<L.length:=by omega
   have hst:=hL _ (List.getElem_mem hxl)
   have hle:=hwl _ (List.getElem_mem hxl)
   have hnt:=h.nt
   have hsj:=hst.1
   obtain ⟨b1,e1,hb1,c1,ldA⟩:=ints_at hs (x:=x) (by omega)
   subst e1
   rw[RB L hxl] at ldA
   obtain ⟨n1,n2,n3⟩:=hs3 _ rfl
   simp only at n1 n2 n3
   obtain ⟨σ1,o1,eG,g1,same1,len1⟩:=sH (k+2) hg (x:=2*L[x]) (by omega) ha (by omega)
   have eG':CO (k+3) ((2*L[x]:Nat):Int) (some ⟨h5,0,none⟩) (some ⟨h3,0,none⟩) σ=_:=eG
   have h1:Ah σ1 i m:=h.Cx fun j hj=>same1 j (hi j hj).1 (hi j hj).2.1
   obtain ⟨τ2,e2⟩:=aE k h1 hsj
   have g2:=g1.Cx (σ':=σ1++τ2) (fun q hq=>List.getElem?_append_left hq) (by simp)
   obtain ⟨σ3,hσ3⟩:∃ σ3,(σ1++τ2).set h5 (.cells [.int .i64 ((2*L[x]+sz m L[x]:Nat):Int)] AP true)=σ3:=⟨_,rfl⟩
   have est:Gn (σ1++τ2) h5 0 (.int .i64 ((2*L[x]+sz m L[x]:Nat):Int))=some σ3:=by
    rw[← hσ3]; simp[Gn,g2.at_]
   have same3:∀ q,q≠h5→σ3[q]?=(σ1++τ2)[q]?:=fun q hq=>by rw[← hσ3,List.getElem?_set_ne (Ne.symm hq)]
   have hll:=g1.ll
   have l3:σ3.length=σ1.length+τ2.length:=by rw[← hσ3]; simp
   have g3:Z4 lo h5 h3 σ3 (2*L[x]+sz m L[x]) o1 (R++Kh a (2*L[x])):=⟨by rw[← hσ3,List.getElem?_set_self (Af g2.at_)],(same3 _ (Ne.symm g2.ne)).trans g2.out,
    g2.sl.Cx fun a ha=>same3 _ (fun e=>by have:=g2.new a ha; have:=g2.l5; omega),g2.new,g2.l5,g2.l3,g2.ne,by omega⟩
   have YO:∀ q,q<lo→q≠h3→q≠h5→σ3[q]?=σ[q]?:=fun q p1 p2 p3=>by
    rw[same3 q p3,List.getElem?_append_left (by omega),same1 q p1 p2]
   have h3':Ah σ3 i m:=h.Cx fun j hj=>YO j (hi j hj).1 (hi j hj).2.1 (hi j hj).2.2
   have s3:Dl lo' σ3 (some ⟨b1,0,none⟩,(CK L).length,(CK L).length) (CK L):=.inr ⟨b1,hb1,rfl,fun e=>by rw[e] at al; simp at al; omega,by rw[YO b1 n1 n2 n3]; exact c1⟩
   have hgl:(Kh a (2*L[x])).length≤1:=by unfold Kh; split <;> simp
   obtain ⟨σ4,o4,e4,h4,g4,same4,len4,m4,m5⟩:=dS k L hL hLl hwl (some ⟨b1,0,none⟩,(CK L).length,(CK L).length) hs3 hi n (x+1) f σ3 (2*L[x]+sz m L[x]) o1 (R++Kh a (2*L[x])) h3' g3 s3 (by rw[List.length_append]; omega) hle (by omega) (by omega)
   have eT:ET m (L.drop x) a=(Kh a (2*L[x])++(ET m (L.drop (x+1)) (2*L[x]+sz m L[x])).1,(ET m (L.drop (x+1)) (2*L[x]+sz m L[x])).2):=by
    rw[List.drop_eq_getElem_cons hxl]; rfl
   rw[eT]
   rw[List.append_assoc] at g4 m5
   refine ⟨σ4,o4, ?_,h4,g4,fun q p1 p2 p3=>(same4 q p1 p2 p3).trans (YO q p1 p2 p3),by omega,m4,m5⟩
   rw[Ky,Jy]
   have q:decide ((x:Int)<(L.length:Int))=true:=decide_eq_true (by omega)
   have w1:Ae ((x:Int)+1)=((x+1:Nat):Int):=Ad (by unfold AV; omega)
   have w2:Ae (((2*L[x]:Nat):Int)+(sz m L[x]:Int))=((2*L[x]+sz m L[x]:Nat):Int):=by rw[Ad (by unfold AV; omega)]; omega
   simp only[q,cond_true]
   rw[if_pos (by omega)]
   simp only[Option.bind_some,Nat.zero_add,Int.toNat_natCast,Nat.mul_one,ldA,eG',KE,e2,Am,w2,est,w1]
   exact e4
theorem tV (k:Nat) (hk:5000≤k) (h:Ah σ i m) (hI:Inv m) {b:Nat} (hb:b<m.bls.length):
  ∃ τ s,Ec (k+7) (BN i) (b:Int) σ=some (.slice s.1 s.2.1 s.2.2,σ++τ)∧BU Aj 2 (σ++τ) s (iU m b).length (Bh (iU m b))∧(iU m b).length≤33 ∧ ∀ a,s.1=some a→σ.length≤a.block:=by
 have hu:Cl (k+6) (BN i) (b:Int) σ=_:=kK (k+3) h hb
 unfold iU
 by_cases hc:1≤b∧(m.bls.getD b (0,0)).1=1
 rotate_left
 ·rw[if_neg hc]
  refine ⟨[],(none,0,0), ?_,BU.nil _ _ _,by simp,by intro a ha; cases ha⟩
  rw[J3,JF]
  simp only[hu,Option.bind_some,Ao,decide_eq_false hc,Bool.not_false,cond_true,List.append_nil]
 rw[if_pos hc]
 have hnt:=h.nt
 have hwl:=h.wl
 obtain ⟨σ1,hσ1⟩:∃ σ1,σ++[AJ.cells [.slice none 0 0] VC true]=σ1:=⟨_,rfl⟩
 have l1:σ1.length=σ.length+1:=by rw[← hσ1]; simp
 obtain ⟨σ2,hσ2⟩:∃ σ2,σ1++[AJ.cells [.int .i64 ((64*b:Nat):Int)] AP true]=σ2:=⟨_,rfl⟩
 have est:Gn (σ1++[AJ.cells [.int .i64 0] AP true]) σ1.length 0 (.int .i64 ((64*b:Nat):Int))=some σ2:=by
  rw[← hσ2]; simp[Gn]
 have l2:σ2.length=σ.length+2:=by rw[← hσ2]; simp; omega
 have h2:Ah σ2 i m:=hσ2 ▸ (hσ1 ▸ h.app _:Ah σ1 i m).app _
 obtain ⟨τ3,s,e3,i3⟩:=UT k hk h2 hb
 have hL:∀ j ∈ Cb m (32*b) 32,Start m j:=by
  intro j hj
  obtain ⟨a,b',c⟩:=KD.1 hj
  exact ⟨by omega,c⟩
 have hLl:=KK m (32*b) 32
 have hlt:=h.lt
 have g0:Z4 (σ2++τ3).length σ1.length σ.length (σ2++τ3) (64*b) (none,0,0) []:=by
  refine { at_:=?_,out:=?_,sl:=BU.nil _ _ _,new:=(by intro a ha; cases ha),l5:=(by simp; omega),l3:=(by simp; omega),ne:=(by omega),ll:=Nat.le_refl _ }
  ·rw[List.getElem?_append_left (by omega),← hσ2]; simp
  ·rw[List.getElem?_append_left (by omega),← hσ2,List.getElem?_append_left (by omega),← hσ1]; simp
 obtain ⟨σ4,o4,e4,h4,g4,same4,len4,m4,m5⟩:=dS (k+3) _ hL (by omega) (fun j hj=>by have:=hI.fit j (hL j hj); omega) s (fun a ha=>by have:=i3.ge a ha; simp only[List.length_append] at *; omega) (fun j hj=>by have:=hlt j hj; simp; omega)
  (Cb m (32*b) 32).length 0 (k+6) (σ2++τ3) (64*b) (none,0,0) [] (h2.app τ3) g0 i3 (Nat.zero_le _) (by omega) (by omega) (by omega)
 rw[List.drop_zero,List.nil_append] at g4 m5
 rw[List.drop_zero] at m4
 obtain ⟨σ5,o5,e5,g5,same5,len5⟩:=sH (k+5) g4 (x:=64*b+64) (by omega) (by omega) (by omega)
 have hll:=g5.ll
 have hle:σ.length≤σ5.length:=by simp at hll; omega
 have eσ:σ5=σ++σ5.drop σ.length:=by
  apply List.ext_getElem?
  intro q
  by_cases hq:q<σ.length
  ·rw[List.getElem?_append_left hq,same5 q (by simp; omega) (by omega),same4 q (by simp; omega) (by omega) (by omega),List.getElem?_append_left (by omega),← hσ2,List.getElem?_append_left (by omega),← hσ1,List.getElem?_append_left hq]
  ·rw[List.getElem?_append_right (by omega),List.getElem?_drop,show σ.length+(q-σ.length)=q from by omega]
 refine ⟨σ5.drop σ.length,o5, ?_,by rw[← eσ]; exact g5.sl, ?_,fun a ha=>by have:=g5.new a ha; simp at this; omega⟩
 ·have hl:=i3.len
  rw[show (CK (Cb m (32*b) 32)).length=(Cb m (32*b) 32).length from by simp[CK]] at hl
  rw[← eσ,J3,JF]
  have w1:Ae ((b:Int)*64)=((64*b:Nat):Int):=by rw[Ad (by unfold AV; omega)]; omega
  have w2:Ae ((b:Int)+1)=((b+1:Nat):Int):=by rw[Ad (by unfold AV; omega)]; omega
  have w3:Ae (((b+1:Nat):Int)*64)=((64*b+64:Nat):Int):=by rw[Ad (by unfold AV; omega)]; omega
  have lO:Cr σ5 σ.length 0=some (o5.1,o5.2.1,o5.2.2):=by simp[Cr,Gr,g5.out,Gp]
  have e4':Dr (k+6) (k+6) (BN i) σ1.length σ.length s.1 (Cb m (32*b) 32).length s.2.2 (((Cb m (32*b) 32).length:Nat):Int) 0 (σ2++τ3)=some (.exit 0,[],σ4):=by rw[hl] at e4; exact e4
  simp only[hu,Option.bind_some,Ao,decide_eq_true hc,Bool.not_true,cond_false,An,hσ1,w1,est,e3,Gp,hl,e4',if_true,w2,w3,e5,KE,lO]
 ·unfold fy
  rw[List.length_append]
  have:(Kh (ET m (Cb m (32*b) 32) (64*b)).2 (64*b+64)).length≤1:=by unfold Kh; split <;> simp
  omega
end Go.Proofs.YtlaplcglpnlieaaGreat
end
