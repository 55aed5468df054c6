/- The document's heap: whole blocks, what fits, gaps.; The document's heap: words, gaps, lines.; The document's heap: what turns in memory; blocks are c -/
import Derived.Test.YtlaplcglpnlieaaGreatP16
set_option linter.unusedVariables false
set_option linter.unusedSimpArgs false
set_option linter.unusedSectionVars false
section
namespace Go.Proofs.YtlaplcglpnlieaaGreat
open Go Go.AX
noncomputable local instance uX:AK:=Au
local instance tT:Kn:=⟨true⟩
variable {σ:Aa} {m:HM} {t:RM} {i:RI}
theorem Xy (h:RG σ i m t) {b:Nat} (hb:b<m.bls.length):∃ q,i.bs.1=some ⟨q,0,none⟩∧Ai .i64 σ q (b*2)=some (m.bls.getD b (0,0)).1∧Ai .i64 σ q (b*2+1)=some (m.bls.getD b (0,0)).2∧σ[q]?=some (.cells (C3 m.bls) AA true):=by
 obtain ⟨q,e,l0,l1,hc⟩:=Vm h.at_.bl (x:=b) (by rw[h.bn]; exact hb)
 rw[h.sim.bl] at l0 l1 hc
 exact ⟨q,e,l0,l1,hc⟩
theorem Xx (k:Nat) (h:RG σ i m t) {b:Nat} (hb:b<m.bls.length) (hst:(m.bls.getD b (0,0)).1=2):∀ (f n:Nat),m.bls.length≤b+n+f→n≤m.bls.length→DO k (f+1) (Ca i) (b:Int) (n:Int) σ=some (.exit 0,[.int .i64 (Hj m b f n:Int)],σ)
 | 0,n,h1,h2=>by
   have hnt:=h.nt
   rw[LA,JN,Hj]
   have w:Ac ((b:Int)+(n:Int))=((b+n:Nat):Int):=by rw[Ad (by unfold AY; omega)]; omega
   have q:decide (((b+n:Nat):Int)<((m.bls.length:Nat):Int))=false:=decide_eq_false (by omega)
   simp only[Option.bind_some,Nat.zero_add,Nat.add_zero,h.at_.RK,h.bn,w,q,cond_false]
 | f+1,n,h1,h2=>by
   have hnt:=h.nt
   rw[LA,JN,Hj]
   have w:Ac ((b:Int)+(n:Int))=((b+n:Nat):Int):=by rw[Ad (by unfold AY; omega)]; omega
   have w1:Ac ((n:Int)+1)=((n+1:Nat):Int):=Ad (by unfold AY; omega)
   simp only[Option.bind_some,Nat.zero_add,Nat.add_zero,h.at_.RK,h.bn,w,hst,true_and]
   by_cases hc:b+n<m.bls.length
   ·obtain ⟨q,e,l0,_,_⟩:=Xy h hc
    have q1:decide (((b+n:Nat):Int)<((m.bls.length:Nat):Int))=true:=decide_eq_true (by omega)
    have qx:(0≤((b+n:Nat):Int)∧((b+n:Nat):Int)<((m.bls.length:Nat):Int))=True:=eq_true (by omega)
    simp only[q1,cond_true,qx,if_true,e,Option.bind_some,Int.toNat_natCast,Nat.zero_add,l0]
    by_cases h3:(m.bls.getD (b+n) (0,0)).1=3
    ·rw[if_pos ⟨hc,h3⟩,beq_iff_eq.2 h3]
     simp only[cond_true,w1]
     exact Xx k h hb hst f (n+1) (by omega) (by omega)
    ·rw[if_neg (fun h=>h3 h.2),beq_eq_false_iff_ne.2 h3]
     simp only[cond_false]
   ·have q1:decide (((b+n:Nat):Int)<((m.bls.length:Nat):Int))=false:=decide_eq_false (by omega)
    have qn:(b+n<m.bls.length∧(m.bls.getD (b+n) (0,0)).1=3)=False:=eq_false (fun h=>hc h.1)
    simp only[q1,cond_false,Option.bind_some,qn,if_false]
def RH (m:HM) (b:Nat):Nat:=if (m.bls.getD b (0,0)).1=1 then 1 else if (m.bls.getD b (0,0)).1=2 then Gf m b else 0
theorem Yp (k:Nat) (hk:100≤k) (h:RG σ i m t) {b:Nat} (hb:b<m.bls.length):BW (k+1) (Ca i) (b:Int) σ=some (.int .i64 (RH m b:Int),σ):=by
 have hnt:=h.nt
 obtain ⟨q,e,l0,_,_⟩:=Xy h hb
 have qx:(0≤(b:Int)∧(b:Int)<((m.bls.length:Nat):Int))=True:=eq_true (by omega)
 rw[TW,PZ]
 simp only[Option.bind_some,Nat.zero_add,Nat.add_zero,h.at_.RK,h.bn,qx,if_true,e,Int.toNat_natCast,l0]
 unfold RH
 by_cases h1:(m.bls.getD b (0,0)).1=1
 ·rw[if_pos h1,beq_iff_eq.2 h1]; rfl
 rw[if_neg h1,beq_eq_false_iff_ne.2 h1]
 by_cases h2:(m.bls.getD b (0,0)).1=2
 ·rw[if_pos h2]
  have e1:=Xx k h hb h2 (k-1) 1 (by omega) (by omega)
  rw[show k-1+1=k from by omega] at e1
  have e1':DO k k (Ca i) (b:Int) 1 σ=_:=e1
  simp only[h2,bne_self_eq_false,cond_false,e1',Option.bind_some,if_true,DZ]
  rw[WG m b (k-1) m.bls.length 1 (by omega) (by omega)]; rfl
 ·rw[if_neg h2]
  simp only[cond_false,bne_iff_ne.2 h2,cond_true]
  rfl
theorem Zj (r d k:Int):0≤words r d k∧words r d k≤218:=T9 r d k
theorem gO (k:Nat) (r d c:Int) (σ:Aa):∃ τ,HJ (k+3) r d c σ=some (.int .i64 ((words r d c+63).tdiv 64),σ++τ):=by
 obtain ⟨τ,e⟩:=HO k r d c (σ++[AP.cells [.int .i64 r,.int .i64 d,.int .i64 c] Al true])
 have hw:=Zj r d c
 refine ⟨[AP.cells [.int .i64 r,.int .i64 d,.int .i64 c] Al true]++τ, ?_⟩
 rw[Zr,WQ]
 simp only[An,LS,Nat.zero_add,Nat.reduceAdd,List.getElem?_cons_zero,List.getElem?_cons_succ,Option.bind_some,Ao,e,show ((64:Int)=0)=False from by decide,if_false]
 have w1:Ac (words r d c+64)=words r d c+64:=Ad (by unfold AY; omega)
 have w2:Ac (words r d c+64-1)=words r d c+63:=by rw[Ad (by unfold AY; omega)]; omega
 obtain ⟨n,hn⟩:∃ n:Nat,words r d c+63=(n:Int):=⟨(words r d c+63).toNat,by omega⟩
 have w3:Ac ((words r d c+63).tdiv 64)=(words r d c+63).tdiv 64:=by
  rw[hn,show ((n:Int)).tdiv 64=((n/64:Nat):Int) from rfl]; exact Ad (by unfold AY; omega)
 rw[w1,w2,w3,List.append_assoc]
theorem Yn (k:Nat) (r d c:Int) (σ:Aa):∃ τ,EJ (k+3) r d c σ=some (.bool (decide (words r d c>32)),σ++τ):=by
 obtain ⟨τ,e⟩:=HO k r d c (σ++[AP.cells [.int .i64 r,.int .i64 d,.int .i64 c] Al true])
 refine ⟨[AP.cells [.int .i64 r,.int .i64 d,.int .i64 c] Al true]++τ, ?_⟩
 rw[XX,VI]
 simp only[An,LS,Nat.zero_add,Nat.reduceAdd,List.getElem?_cons_zero,List.getElem?_cons_succ,Option.bind_some,Ao,e]
 rw[List.append_assoc]
theorem SU {q:Nat} {x y z:Int} {T:TypeId} (h:σ[q]?=some (.cells [.int .i64 x,.int .i64 y,.int .i64 z] T true)):Ai .i64 σ q 0=some x∧Ai .i64 σ q 1=some y∧Ai .i64 σ q 2=some z:=by
 refine ⟨?_, ?_, ?_⟩ <;> simp[Ai,Gs,h,BF]
theorem Rl (k:Nat) (h:RG σ i m t) (a but:Int) (ha:0≤a∧a<4096) {q:Nat} {r d c:Int} (hq:σ[q]?=some (.cells [.int .i64 r,.int .i64 d,.int .i64 c] Al true)):∀ (n x f:Nat) (τ:Aa),x+n=t.ob.length→n<f →
  ∃ τ',Dm (k+2) f (Ca i) a but q (x:Int) (σ++τ)=some (if bf (t.ob.drop x) a (words r d c) but then (.ret,[.int .i64 8],σ++τ') else (.exit 0,[],σ++τ'))
 | 0,x,0,τ,hx,hf=>by omega
 | 0,x,f+1,τ,hx,hf=>by
   have hg:=h.app τ
   rw[MB,Ks,List.drop_eq_nil_of_le (by omega)]
   have q:decide ((x:Int)<((t.ob.length:Nat):Int))=false:=decide_eq_false (by omega)
   exact ⟨τ,by simp only[Option.bind_some,Nat.zero_add,hg.at_.ML,q,cond_false,bf,List.any_nil,Bool.false_eq_true,if_false]⟩
 | n+1,x,0,τ,hx,hf=>by omega
 | n+1,x,f+1,τ,hx,hf=>by
   have hol:=h.ol
   have hxl:x<t.ob.length:=by omega
   have hg:=h.app τ
   obtain ⟨j,b,p,A⟩:=hg.ri hxl
   have hz:=h.inv.size A.st
   have hjl:=A.lt
   have hw:=bp h.inv A.st
   have hwr:=Zj r d c
   have hoj:t.ob[x]=D1 m j:=by
    obtain ⟨j2,g1,_,_,g4⟩:=h.drop hxl
    rw[A.all] at g1; cases g1
    rw[List.getElem?_eq_getElem hxl] at g4; exact Option.some.inj g4
   have hov:bf (t.ob.drop x) a (words r d c) but=(decide ((D1 m j).id≠but∧((2*j:Nat):Int)<a+words r d c∧a<((2*j:Nat):Int)+(sz m j:Int)) || bf (t.ob.drop (x+1)) a (words r d c) but):=by
    rw[List.drop_eq_getElem_cons hxl,hoj]
    unfold bf
    rw[List.any_cons,hw,IP]
   obtain ⟨B,hB⟩:∃ B,AP.cells (FE (D1 m j) p) Aj true=B:=⟨_,rfl⟩
   have st:Kj (σ++τ++[AP.cells [.int .i64 0,.int .i64 0,.int .i64 0,.int .i64 0,.int .i64 0,.slice none 0 0,.slice none 0 0,.bool false] Aj true]) (σ++τ).length 0 [.int .i64 (D1 m j).addr,.int .i64 (D1 m j).id,.int .i64 (D1 m j).r,.int .i64 (D1 m j).d,.int .i64 (D1 m j).k,.slice p.1.1 p.1.2.1 p.1.2.2,.slice p.2.1 p.2.2.1 p.2.2.2,.bool (D1 m j).pin]=some (σ++τ++[B]):=by
    rw[o6,← hB]; rfl
   have lb:∀ (τ':Aa) (o:Nat),Ai .i64 (σ++τ++[B]++τ') (σ++τ).length o=((FE (D1 m j) p)[o]?).bind (BF .i64):=fun τ' o=>by rw[← hB]; exact Wv _ _ _ _ _ _ _
   have lb0:∀ (o:Nat),Ai .i64 (σ++τ++[B]) (σ++τ).length o=((FE (D1 m j) p)[o]?).bind (BF .i64):=fun o=>by have:=lb [] o; rwa [List.append_nil] at this
   have hq':(σ++τ++[B])[q]?=some (.cells [.int .i64 r,.int .i64 d,.int .i64 c] Al true):=by
    rw[List.append_assoc,List.getElem?_append_left (Ae hq)]; exact hq
   obtain ⟨b0,b1,b2⟩:=SU hq'
   obtain ⟨τ1,e1⟩:=HO k r d c (σ++τ++[B])
   obtain ⟨τ2,e2⟩:=HO k (BP m j) (Eu m j) (Hg m j) (σ++τ++[B]++τ1)
   rw[(iy h.inv A.st).2.2.2.2.2.2.2] at e2
   have q0:decide ((x:Int)<((t.ob.length:Nat):Int))=true:=decide_eq_true (by omega)
   have qx:(0≤(x:Int)∧(x:Int)<((t.ob.length:Nat):Int))=True:=eq_true (by omega)
   have w1:Ac ((x:Int)+1)=((x+1:Nat):Int):=Ad (by unfold AY; omega)
   have w2:Ac (a+words r d c)=a+words r d c:=Ad (by unfold AY; omega)
   have w3:Ac (((2*j:Nat):Int)+(sz m j:Int))=((2*j:Nat):Int)+(sz m j:Int):=Ad (by unfold AY; omega)
   have c0:((FE (D1 m j) p)[0]?).bind (BF .i64)=some ((2*j:Nat):Int):=rfl
   have c1:((FE (D1 m j) p)[1]?).bind (BF .i64)=some (D1 m j).id:=rfl
   have c2:((FE (D1 m j) p)[2]?).bind (BF .i64)=some (BP m j):=rfl
   have c3:((FE (D1 m j) p)[3]?).bind (BF .i64)=some (Eu m j):=rfl
   have c4:((FE (D1 m j) p)[4]?).bind (BF .i64)=some (Hg m j):=rfl
   rw[hov,MB,Ks]
   simp only[Option.bind_some,Nat.zero_add,Nat.add_zero,Nat.add_assoc,Nat.reduceAdd,hg.at_.ML,q0,cond_true,qx,if_true,A.os,Int.toNat_natCast,A.ld.l0,A.ld.l1,A.ld.l2,A.ld.l3,A.ld.l4,A.ld.l5,A.ld.l6,A.ld.l7,An,st,lb0,c1]
   by_cases d1:(D1 m j).id=but
   ·obtain ⟨τ3,e3⟩:=Rl k h a but ha hq n (x+1) f (τ++[B]) (by omega) (by omega)
    refine ⟨τ3, ?_⟩
    have:((D1 m j).id != but)=false:=by rw[d1]; exact bne_self_eq_false _
    rw[decide_eq_false (fun h=>h.1 d1),Bool.false_or]
    simp only[← List.append_assoc] at e3
    simp only[this,cond_false,Option.bind_some,w1]
    exact e3
   ·have hb1:((D1 m j).id != but)=true:=bne_iff_ne.2 d1
    by_cases d2:((2*j:Nat):Int)<a+words r d c
    ·by_cases d3:a<((2*j:Nat):Int)+(sz m j:Int)
     ·refine ⟨τ++[B]++τ1++τ2, ?_⟩
      rw[decide_eq_true ⟨d1,d2,d3⟩]
      simp only[hb1,cond_true,lb0,c0,Option.bind_some,b0,b1,b2,e1,Ao,w2,decide_eq_true d2,lb,c2,c3,c4,e2,w3,decide_eq_true d3,Bool.true_or,if_true]
      simp only[← List.append_assoc]
     ·obtain ⟨τ3,e3⟩:=Rl k h a but ha hq n (x+1) f (τ++[B]++τ1++τ2) (by omega) (by omega)
      refine ⟨τ3, ?_⟩
      rw[decide_eq_false (fun h=>d3 h.2.2),Bool.false_or]
      simp only[← List.append_assoc] at e3
      simp only[hb1,cond_true,lb0,c0,Option.bind_some,b0,b1,b2,e1,Ao,w2,decide_eq_true d2,lb,c2,c3,c4,e2,w3,decide_eq_false d3,cond_false,w1]
      exact e3
    ·obtain ⟨τ3,e3⟩:=Rl k h a but ha hq n (x+1) f (τ++[B]++τ1) (by omega) (by omega)
     refine ⟨τ3, ?_⟩
     rw[decide_eq_false (fun h=>d2 h.2.1),Bool.false_or]
     simp only[← List.append_assoc] at e3
     simp only[hb1,cond_true,lb0,c0,Option.bind_some,b0,b1,b2,e1,Ao,w2,decide_eq_false d2,cond_false,w1]
     exact e3
theorem Wm {hi:Nat} {but:Int}:∀ {f x:Nat},MK m hi but f x=false → ∃ y o,x≤y∧y<hi∧Nq m (y:Int)=some o∧((2*o:Nat):Int)≠but
 | 0,x,h=>by cases h
 | f+1,x,h=>by
   rw[MK] at h
   split at h
   ·rename_i hx
    split at h
    ·rename_i o ho
     split at h
     ·obtain ⟨y,o',h1,h2⟩:=Wm h
      exact ⟨y,o',by omega,h2⟩
     ·rename_i hne
      exact ⟨x,o,Nat.le_refl _,hx,ho,hne⟩
    ·obtain ⟨y,o',h1,h2⟩:=Wm h
     exact ⟨y,o',by omega,h2⟩
   ·cases h
theorem nZ (hI:Inv m) {a w:Nat} {but bid:Int} (ha:a % 2=0) (hw:w % 2=0) (hw0:2≤w) (hwl:w≤218) (hb:∀ o,Start m o→(((2*o:Nat):Int)=but↔m.wds.getD (2*o) 0=bid)):bf (KE m) (a:Int) (w:Int) bid = !MK m (a+w) but 200 a:=by
 rw[Bool.eq_iff_iff,Bool.not_eq_true']
 unfold bf KE
 rw[List.any_eq_true]
 constructor
 ·rintro ⟨o,ho,hd⟩
  obtain ⟨j,hj,rfl⟩:=List.mem_map.1 ho
  have hs:=Ej.1 hj
  rw[decide_eq_true_eq,bp hI hs,IP] at hd
  have hz:=hI.size hs
  cases hf:MK m (a+w) but 200 a with
  | false=>rfl
  | true=>
    have hfit:=hI.fit j hs
    by_cases hc:a≤2*j
    ·have:=Vg hf (by omega) ((2*j-a)/2) (by omega) j (by
      rw[show a+2*((2*j-a)/2)=2*j from by omega]
      unfold Nq
      rw[if_pos (by omega),Int.toNat_natCast,hI.PH hs (by omega) (by omega)])
     exact absurd ((hb j hs).1 this) hd.1
    ·have:=Vg hf (by omega) 0 (by omega) j (by
      unfold Nq
      rw[if_pos (by omega),Int.toNat_natCast,hI.PH hs (by omega) (by omega)])
     exact absurd ((hb j hs).1 this) hd.1
 ·intro hf
  obtain ⟨y,o,h1,h2,h3,h4⟩:=Wm hf
  unfold Nq at h3
  split at h3
  ·rw[Int.toNat_natCast] at h3
   obtain ⟨s1,_,s3,s4⟩:=Tb h3
   refine ⟨D1 m o,List.mem_map.2 ⟨o,Ej.2 s1,rfl⟩, ?_⟩
   rw[decide_eq_true_eq,bp hI s1,IP]
   exact ⟨fun e=>h4 ((hb o s1).2 e),by omega,by omega⟩
  ·cases h3
theorem oe (k:Nat) (hk:5000≤k) (h:RG σ i m t) (a but bid:Int) {r d c:Int} (hv:valid r d c=true) (hb:∀ o,Start m o→(((2*o:Nat):Int)=but↔m.wds.getD (2*o) 0=bid)):
  ∃ τ,HI (k+4) (Ca i) a r d c bid σ=some (.int .i64 (Nr m a (SF (num r d c)) but),σ++τ):=by
 have hnt:=h.nt
 have hwl:=h.wl
 have hol:=h.ol
 have hsz:words r d c=(SF (num r d c):Int):=by
  obtain ⟨p1,p2,p3,_⟩:=Oi hv
  rw[fg,p1,p2,p3]
 have hs2:=O4 hv
 have hv':=hv
 simp[valid] at hv'
 have hW:SF (num r d c) % 2=0∧2≤SF (num r d c)∧SF (num r d c)≤218:=by rw[hs2]; omega
 obtain ⟨W,hWe⟩:∃ W,SF (num r d c)=W:=⟨_,rfl⟩
 rw[hWe] at hsz hW ⊢
 obtain ⟨B,hB⟩:∃ B,AP.cells [.int .i64 r,.int .i64 d,.int .i64 c] Al true=B:=⟨_,rfl⟩
 have hg:=h.app [B]
 have hq:(σ++[B])[σ.length]?=some (.cells [.int .i64 r,.int .i64 d,.int .i64 c] Al true):=by rw[← hB]; simp
 rw[U8,QY]
 simp only[An,hB]
 unfold Nr
 by_cases h0:a<0
 ·rw[if_pos (show ¬(0≤a∧a<(m.wds.length:Int)∧a.toNat % 2=0) by omega)]
  refine ⟨[B], ?_⟩
  simp only[decide_eq_true h0,cond_true,Option.bind_some]
 obtain ⟨n,rfl⟩:∃ n:Nat,a=(n:Int):=⟨a.toNat,by omega⟩
 rw[Int.toNat_natCast]
 have hm2:((n:Int)).tmod 2=((n % 2:Nat):Int):=rfl
 by_cases h1:n % 2=0
 rotate_left
 ·rw[if_pos (show ¬(0≤(n:Int)∧(n:Int)<(m.wds.length:Int)∧n % 2=0) by omega)]
  refine ⟨[B], ?_⟩
  have:(((n % 2:Nat):Int) != 0)=true:=bne_iff_ne.2 (by omega)
  simp only[decide_eq_false h0,cond_false,show ((2:Int)=0)=False from by decide,if_false,hm2,this,cond_true,Option.bind_some]
 have e2:(((n % 2:Nat):Int) != 0)=false:=by rw[h1]; rfl
 have w64l:Ac (((m.bls.length:Nat):Int)*64)=((m.wds.length:Nat):Int):=by rw[Ad (by unfold AY; omega)]; omega
 by_cases h3:n<m.wds.length
 rotate_left
 ·rw[if_pos (show ¬(0≤(n:Int)∧(n:Int)<(m.wds.length:Int)∧n % 2=0) by omega)]
  refine ⟨[B], ?_⟩
  simp only[decide_eq_false h0,cond_false,show ((2:Int)=0)=False from by decide,if_false,hm2,e2,Option.bind_some,Nat.zero_add,Nat.add_zero,hg.at_.RK,hg.bn,w64l,decide_eq_true (show (n:Int)≥((m.wds.length:Nat):Int) by omega),cond_true]
 rw[if_neg (show ¬¬(0≤(n:Int)∧(n:Int)<(m.wds.length:Int)∧n % 2=0) by omega)]
 obtain ⟨b0,b1,b2⟩:=SU hq
 obtain ⟨τ1,eL⟩:=Yn k r d c (σ++[B])
 have hg1:=hg.app τ1
 have hq1:(σ++[B]++τ1)[σ.length]?=_:=(List.getElem?_append_left (Ae hq)).trans hq
 obtain ⟨d0,d1,d2⟩:=SU hq1
 have hnb:n/64<m.bls.length:=by omega
 have wb:Ac (((n:Int)).tdiv 64)=((n/64:Nat):Int):=by rw[show ((n:Int)).tdiv 64=((n/64:Nat):Int) from rfl]; exact Ad (by unfold AY; omega)
 have hm64:((n:Int)).tmod 64=((n % 64:Nat):Int):=rfl
 obtain ⟨qb,eb,lb0,_,_⟩:=Xy hg1 hnb
 have qx:(0≤((n/64:Nat):Int)∧((n/64:Nat):Int)<((m.bls.length:Nat):Int))=True:=eq_true (by omega)
 have loop:∀ μ:Aa,∃ τ',((Dm (k+3) (k+3) (Ca i) (n:Int) bid σ.length (0:Int) (σ++[B]++μ)).bind fun r67=>if r67.1 = .exit 0 then (some (Value.int .i64 (0:Int),r67.2.2)) else if r67.1 = .ret then (T7 r67.2.1 fun n68=>some (.int .i64 n68,r67.2.2)) else none)=some (Value.int .i64 (if MK m (n+W) but 200 n then 0 else 8),σ++τ'):=by
  intro μ
  obtain ⟨τ',e⟩:=Rl (k+1) hg (n:Int) bid (by omega) hq t.ob.length 0 (k+3) μ (by omega) (by omega)
  rw[List.drop_zero,h.sim.ob,hsz,nZ h.inv h1 hW.1 hW.2.1 hW.2.2 hb,show ((0:Nat):Int)=0 from rfl] at e
  have e':Dm (k+3) (k+3) (Ca i) (n:Int) bid σ.length 0 (σ++[B]++μ)=_:=e
  refine ⟨[B]++τ', ?_⟩
  rw[e',← List.append_assoc]
  cases MK m (n+W) but 200 n with
  | true=>simp only[Bool.not_true,Bool.false_eq_true,if_false,Option.bind_some,if_true]
  | false=>simp only[Bool.not_false,if_true,Option.bind_some,reduceCtorEq,if_false,DZ,Bool.false_eq_true]
 simp only[decide_eq_false h0,cond_false,show ((2:Int)=0)=False from by decide,if_false,hm2,e2,Option.bind_some,Nat.zero_add,Nat.add_zero,Nat.reduceAdd,hg.at_.RK,hg.bn,w64l,decide_eq_false (show ¬ (n:Int)≥((m.wds.length:Nat):Int) by omega),show ((64:Int)=0)=False from by decide,b0,b1,b2,eL,As,hsz]
 by_cases hL:W≤32
 ·rw[if_pos hL,decide_eq_false (by omega)]
  simp only[cond_false,hg1.at_.RK,hg1.bn,wb,qx,if_true,eb,Option.bind_some,Int.toNat_natCast,Nat.zero_add,lb0]
  by_cases s1:(m.bls.getD (n/64) (0,0)).1=1
  ·obtain ⟨τ2,eW⟩:=HO (k+1) r d c (σ++[B]++τ1)
   rw[hsz] at eW
   have wa:Ac ((n:Int)+(W:Int))=((n+W:Nat):Int):=by rw[Ad (by unfold AY; omega)]; omega
   have wc:Ac (((n+W:Nat):Int)-1)=((n+W-1:Nat):Int):=by rw[Ad (by unfold AY; omega)]; omega
   have wd:Ac ((((n+W-1:Nat):Int)).tdiv 64)=(((n+W-1)/64:Nat):Int):=by rw[show (((n+W-1:Nat):Int)).tdiv 64=(((n+W-1)/64:Nat):Int) from rfl]; exact Ad (by unfold AY; omega)
   simp only[s1,bne_self_eq_false,cond_false,d0,d1,d2,Option.bind_some,eW,Ao,wa,wc,wd]
   by_cases s2:(n+W-1)/64=n/64
   ·have:((((n+W-1)/64:Nat):Int) != ((n/64:Nat):Int))=false:=by rw[s2]; exact bne_self_eq_false _
    obtain ⟨τ',e'⟩:=loop (τ1++τ2)
    rw[if_neg (fun hh=>hh.elim (fun h=>h rfl) (fun h=>h s2))]
    refine ⟨τ', ?_⟩
    simp only[this,cond_false,Option.bind_some,if_true]
    rw[List.append_assoc (σ++[B])]
    exact e'
   ·have:((((n+W-1)/64:Nat):Int) != ((n/64:Nat):Int))=true:=bne_iff_ne.2 (by omega)
    rw[if_pos (.inr s2)]
    refine ⟨[B]++τ1++τ2, ?_⟩
    simp only[this,cond_true,Option.bind_some,reduceCtorEq,if_false,if_true,DZ,List.append_assoc]
  ·rw[if_pos (.inl s1)]
   refine ⟨[B]++τ1, ?_⟩
   simp only[bne_iff_ne.2 s1,cond_true,Option.bind_some,reduceCtorEq,if_false,if_true,DZ,List.append_assoc]
 ·rw[if_neg hL,decide_eq_true (by omega)]
  simp only[cond_true,hm64]
  by_cases s0:n % 64=0
  rotate_left
  ·have:(((n % 64:Nat):Int) != 0)=true:=bne_iff_ne.2 (by omega)
   rw[if_pos (.inr (.inl s0))]
   refine ⟨[B]++τ1, ?_⟩
   simp only[this,cond_true,Option.bind_some,reduceCtorEq,if_false,if_true,DZ,List.append_assoc]
  have e0:(((n % 64:Nat):Int) != 0)=false:=by rw[s0]; rfl
  simp only[e0,cond_false,hg1.at_.RK,hg1.bn,wb,qx,if_true,eb,Option.bind_some,Int.toNat_natCast,Nat.zero_add,lb0]
  by_cases s1:(m.bls.getD (n/64) (0,0)).1=2
  rotate_left
  ·rw[if_pos (.inl s1)]
   refine ⟨[B]++τ1, ?_⟩
   simp only[bne_iff_ne.2 s1,cond_true,Option.bind_some,reduceCtorEq,if_false,if_true,DZ,List.append_assoc]
  have eWh:BW (k+3) (Ca i) ((n/64:Nat):Int) (σ++[B]++τ1)=_:=Yp (k+2) (by omega) hg1 hnb
  have hwn:RH m (n/64)=Gf m (n/64):=by unfold RH; rw[if_neg (by rw[s1]; decide),if_pos s1]
  obtain ⟨τ2,eN⟩:=gO k r d c (σ++[B]++τ1)
  have hnd:(words r d c+63).tdiv 64=(((W+63)/64:Nat):Int):=by rw[hsz]; rfl
  rw[hnd] at eN
  simp only[s1,bne_self_eq_false,cond_false,eWh,Option.bind_some,Ao,hwn,d0,d1,d2,eN]
  by_cases s2:Gf m (n/64)=(W+63)/64
  ·have:(((Gf m (n/64):Nat):Int) != (((W+63)/64:Nat):Int))=false:=by rw[s2]; exact bne_self_eq_false _
   obtain ⟨τ',e'⟩:=loop (τ1++τ2)
   rw[if_neg (fun hh=>hh.elim (fun h=>h rfl) (fun h=>h.elim (fun h=>h s0) (fun h=>h s2)))]
   refine ⟨τ', ?_⟩
   simp only[this,cond_false,Option.bind_some,if_true]
   rw[List.append_assoc (σ++[B])]
   exact e'
  ·have:(((Gf m (n/64):Nat):Int) != (((W+63)/64:Nat):Int))=true:=bne_iff_ne.2 (by omega)
   rw[if_pos (.inr (.inr s2))]
   refine ⟨[B]++τ1++τ2, ?_⟩
   simp only[this,cond_true,Option.bind_some,reduceCtorEq,if_false,if_true,DZ,List.append_assoc]
end Go.Proofs.YtlaplcglpnlieaaGreat
end
section
namespace Go.Proofs.YtlaplcglpnlieaaGreat
open Go Go.AX
noncomputable local instance uY:AK:=Au
local instance tU:Kn:=⟨true⟩
variable {σ:Aa} {m:HM} {t:RM} {i:RI}
theorem KU.app {s:EF} {l:List Int} (h:KU σ s l) (τ:Aa):KU (σ++τ) s l:=
 ⟨h.1,fun hn=>by
  obtain ⟨b,c,e,hc⟩:=h.2.1 hn
  exact ⟨b,c,e,(List.getElem?_append_left (Ae hc)).trans hc⟩,fun a ha=>by
  obtain ⟨cs,T,w,h1,h2⟩:=h.2.2 a ha
  exact ⟨cs,T,w,(List.getElem?_append_left (Ae h1)).trans h1,h2⟩⟩
theorem ji {j:Nat} (hs:Start m j):Qr m ((2*j:Nat):Int)=true:=by
 unfold Qr
 rw[decide_eq_true_eq,Int.toNat_natCast,show 2*j/2=j from by omega]
 exact ⟨by omega,by omega,hs⟩
theorem YW (k:Nat) (hk:5000≤k) (h:RG σ i m t) (L:List Nat) (hL:∀ j ∈ L,Start m j) (hLl:L.length≤2048) {lo':Nat} (s:EF) (hs:DX lo' σ s (E8 L)):∀ (n x f a:Nat) (τ:Aa) (o:EF) (R:List (Nat × Nat)),Cd Af 2 (σ++τ) o R.length (Bj R)→(∀ q,o.1=some q→σ.length≤q.block)→R.length≤x→a≤5000→x+n=L.length→n<f →
  ∃ τ' o',Dl (k+3) f (Ca i) s.1 s.2.1 s.2.2 (o.1,o.2.1,o.2.2) (a:Int) (x:Int) (σ++τ)=some (.exit 0,[.slice o'.1 o'.2.1 o'.2.2,.int .i64 ((EA m (L.drop x) a).2:Int)],σ++τ')∧Cd Af 2 (σ++τ') o' (R++(EA m (L.drop x) a).1).length (Bj (R++(EA m (L.drop x) a).1))∧(∀ q,o'.1=some q→σ.length≤q.block)∧(EA m (L.drop x) a).2≤5000∧(R++(EA m (L.drop x) a).1).length≤L.length
 | 0,x,0,a,τ,o,R,hR,ho,hr,ha,hx,hf=>by omega
 | 0,x,f+1,a,τ,o,R,hR,ho,hr,ha,hx,hf=>by
   have al:(E8 L).length=L.length:=by simp[E8]
   have sl:s.2.1=L.length:=by rw[← al]; exact hs.sl.len
   rw[MA,Kr,List.drop_eq_nil_of_le (by omega)]
   have q:decide ((x:Int)<((s.2.1:Nat):Int))=false:=decide_eq_false (by omega)
   exact ⟨τ,o,by simp only[q,cond_false,EA],by simpa [EA] using hR,ho,ha,by simp[EA]; omega⟩
 | n+1,x,0,a,τ,o,R,hR,ho,hr,ha,hx,hf=>by omega
 | n+1,x,f+1,a,τ,o,R,hR,ho,hr,ha,hx,hf=>by
   have al:(E8 L).length=L.length:=by simp[E8]
   have hxl:x<L.length:=by omega
   have hst:=hL _ (List.getElem_mem hxl)
   have hfit:=h.inv.fit _ hst
   have hz:=h.inv.size hst
   have hnt:=h.nt
   have hwl:=h.wl
   have hsj:=hst.1
   obtain ⟨b1,e1,hb1,c1,ldA⟩:=ints_at hs (x:=x) (by omega)
   rw[SI L hxl] at ldA
   have hbl:=Ae c1
   have ldA':∀ τ1:Aa,Ai .i64 (σ++τ1) b1 x=some ((2*L[x]:Nat):Int):=fun τ1=>by
    rw[← ldA]; simp only[Ai,Gs,List.getElem?_append_left hbl]
   have eT:EA m (L.drop x) a=(Ja a (2*L[x])++(EA m (L.drop (x+1)) (2*L[x]+sz m L[x])).1,(EA m (L.drop (x+1)) (2*L[x]+sz m L[x])).2):=by
    rw[List.drop_eq_getElem_cons hxl]; rfl
   have qx:(0≤(x:Int)∧(x:Int)<((L.length:Nat):Int))=True:=eq_true (by omega)
   have q0:decide ((x:Int)<((L.length:Nat):Int))=true:=decide_eq_true (by omega)
   have w1:Ac ((x:Int)+1)=((x+1:Nat):Int):=Ad (by unfold AY; omega)
   have w2:Ac (((2*L[x]:Nat):Int)+(sz m L[x]:Int))=((2*L[x]+sz m L[x]:Nat):Int):=by rw[Ad (by unfold AY; omega)]; omega
   have hgl:(Ja a (2*L[x])).length≤1:=by unfold Ja; split <;> simp
   have tail:∀ (τ1:Aa) (o1:EF),Cd Af 2 (σ++τ1) o1 (R++Ja a (2*L[x])).length (Bj (R++Ja a (2*L[x])))→(∀ q,o1.1=some q→σ.length≤q.block) →
     ∃ (y b2:Nat) (e3:i.os.1=some ⟨b2,0,none⟩) (e4:y<t.ob.length) (e5:Cs (k+3) (Ca i) ((2*L[x]:Nat):Int) (σ++τ1)=some (.int .i64 (y:Int),σ++τ1)) (e6:Ai .i64 (σ++τ1) b2 (y*8+2)=some (BP m L[x])) (e7:Ai .i64 (σ++τ1) b2 (y*8+3)=some (Eu m L[x])) (e8:Ai .i64 (σ++τ1) b2 (y*8+4)=some (Hg m L[x])) (τ2:Aa) (e9:BL (k+3) (BP m L[x]) (Eu m L[x]) (Hg m L[x]) (σ++τ1)=some (.int .i64 (sz m L[x]:Int),σ++τ2)) (τ':Aa) (o':EF),
      Dl (k+3) f (Ca i) s.1 s.2.1 s.2.2 (o1.1,o1.2.1,o1.2.2) ((2*L[x]+sz m L[x]:Nat):Int) ((x+1:Nat):Int) (σ++τ2)=some (.exit 0,[.slice o'.1 o'.2.1 o'.2.2,.int .i64 ((EA m (L.drop x) a).2:Int)],σ++τ')∧Cd Af 2 (σ++τ') o' (R++(EA m (L.drop x) a).1).length (Bj (R++(EA m (L.drop x) a).1))∧(∀ q,o'.1=some q→σ.length≤q.block)∧(EA m (L.drop x) a).2≤5000∧(R++(EA m (L.drop x) a).1).length≤L.length:=by
    intro τ1 o1 s1 n1
    have hg:=h.app τ1
    obtain ⟨y,j',b2,p,F⟩:=hg.found (ji hst)
    have ej:j'=L[x]:=by have:=F.e; omega
    subst ej
    obtain ⟨τ2,e9⟩:=HO (k+1) (BP m L[x]) (Eu m L[x]) (Hg m L[x]) (σ++τ1)
    rw[(iy h.inv hst).2.2.2.2.2.2.2,List.append_assoc] at e9
    have s2:Cd Af 2 (σ++(τ1++τ2)) o1 (R++Ja a (2*L[x])).length (Bj (R++Ja a (2*L[x]))):=by rw[← List.append_assoc]; exact s1.app τ2
    obtain ⟨τ',o',r1,r2,r3,r4,r5⟩:=YW k hk h L hL hLl s hs n (x+1) f (2*L[x]+sz m L[x]) (τ1++τ2) o1 (R++Ja a (2*L[x])) s2 n1 (by rw[List.length_append]; omega) (by omega) (by omega) (by omega)
    rw[eT]
    rw[List.append_assoc] at r2 r5
    exact ⟨y,b2,F.os,F.xl,by rw[← F.idx]; exact gM (k+1) (by omega) hg _,F.ld.l2,F.ld.l3,F.ld.l4,τ1++τ2,e9,τ',o',r1,r2,r3,r4,r5⟩
   subst e1
   rw[MA,Kr]
   simp only[al] at *
   by_cases hc:a<2*L[x]
   ·obtain ⟨o1,τ1,ea,s1,n1⟩:=MF ff dW fq rfl rfl (by decide) (by decide) (by decide) σ τ o R.length (Bj R) 1 1 (Bj [(a,2*L[x]-a)]) Af (by omega) (by decide) rfl hR ho
    have ea':Bn P Af (o.1,o.2.1,o.2.2) (some ⟨(σ++τ).length,0,none⟩,1,1) (σ++τ++[AP.cells [.int .i64 (a:Int),.int .i64 ((2*L[x]-a:Nat):Int)] Af true])=some (o1,σ++τ1):=ea
    have gl:Ja a (2*L[x])=[(a,2*L[x]-a)]:=by unfold Ja; rw[if_pos hc]
    obtain ⟨y,b2,e3,e4,e5,e6,e7,e8,τ2,e9,τ',o',r1,r2,r3,r4,r5⟩:=tail τ1 o1 (by rw[gl,KF,List.length_append]; exact s1) n1
    refine ⟨τ',o', ?_,r2,r3,r4,r5⟩
    have w:Ac (((2*L[x]:Nat):Int)-(a:Int))=((2*L[x]-a:Nat):Int):=by rw[Ad (by unfold AY; omega)]; omega
    have qy:(0≤(y:Int)∧(y:Int)<((t.ob.length:Nat):Int))=True:=eq_true (by omega)
    simp only[q0,cond_true,qx,if_true,Option.bind_some,Nat.zero_add,Nat.add_zero,Nat.add_assoc,Nat.reduceAdd,Int.toNat_natCast,Nat.mul_one,ldA',decide_eq_true (show ((2*L[x]:Nat):Int)>(a:Int) by omega),An,w,ea',GA,(h.app τ1).at_.ML,e5,Ao,qy,e3,e6,e7,e8,e9,w2,w1]
    exact r1
   ·have gl:Ja a (2*L[x])=[]:=by unfold Ja; rw[if_neg hc]
    obtain ⟨y,b2,e3,e4,e5,e6,e7,e8,τ2,e9,τ',o',r1,r2,r3,r4,r5⟩:=tail τ o (by rw[gl,List.append_nil]; exact hR) ho
    refine ⟨τ',o', ?_,r2,r3,r4,r5⟩
    have qy:(0≤(y:Int)∧(y:Int)<((t.ob.length:Nat):Int))=True:=eq_true (by omega)
    simp only[q0,cond_true,cond_false,qx,if_true,Option.bind_some,Nat.zero_add,Nat.add_zero,Nat.add_assoc,Nat.reduceAdd,Int.toNat_natCast,Nat.mul_one,ldA',decide_eq_false (show ¬ ((2*L[x]:Nat):Int)>(a:Int) by omega),GA,(h.app τ).at_.ML,e5,Ao,qy,e3,e6,e7,e8,e9,w2,w1]
    exact r1
def GQ (m:HM) (b:Int):List (Nat × Nat):=if Ii m b=1 then aC m b.toNat else []
theorem Y1 {b:Int} (h:Ii m b=1):∃ n:Nat,b=(n:Int)∧n<m.bls.length∧(m.bls.getD n (0,0)).1=1:=by
 unfold Ii at h
 split at h
 ·rename_i hb
  refine ⟨b.toNat,by omega,by omega,h⟩
 ·cases h
theorem PI (m:HM) (b:Int):(GQ m b).length≤33:=by
 have aux:∀ (L:List Nat) (a:Nat),(EA m L a).1.length≤L.length:=by
  intro L
  induction L with
  | nil=>intro a; exact Nat.le_refl _
  | cons j L ih=>
    intro a
    have:=ih (2*j+sz m j)
    have:(Ja a (2*j)).length≤1:=by unfold Ja; split <;> simp
    rw[EA,List.length_append,List.length_cons]; omega
 unfold GQ
 split
 ·unfold aC
  have:=aux (Cj m (32*b.toNat) 32) (64*b.toNat)
  have:=Ow m (32*b.toNat) 32
  have:(Ja (EA m (Cj m (32*b.toNat) 32) (64*b.toNat)).2 (64*b.toNat+64)).length≤1:=by unfold Ja; split <;> simp
  rw[List.length_append]; omega
 ·simp
theorem nX (k:Nat) (hk:5000≤k) (h:RG σ i m t) (b:Int):∃ τ s,HH (k+4) (Ca i) b σ=some (.slice s.1 s.2.1 s.2.2,σ++τ)∧Cd Af 2 (σ++τ) s (GQ m b).length (Bj (GQ m b)) ∧ ∀ a,s.1=some a→σ.length≤a.block:=by
 have hnt:=h.nt
 have hwl:=h.wl
 rw[U5,QV]
 have eS:Bi (k+3) (Ca i) b σ=_:=Ss (k+1) h b
 simp only[eS,Option.bind_some,Ao]
 unfold GQ
 by_cases hc:Ii m b=1
 rotate_left
 ·rw[if_neg hc,bne_iff_ne.2 hc]
  exact ⟨[],(none,0,0),by simp only[cond_true,List.append_nil],Cd.nil _ _ _,by intro a ha; cases ha⟩
 rw[if_pos hc,hc]
 obtain ⟨n,rfl,hn,hst⟩:=Y1 hc
 obtain ⟨τ1,s,e1,i1⟩:=YX (k+1) (by omega) h (n:Int)
 have eO:aW m (n:Int)=Cj m (32*n) 32:=by unfold aW; rw[if_pos (by omega),Int.toNat_natCast]
 rw[eO] at i1
 have hg:=h.app τ1
 have hL:∀ j ∈ Cj m (32*n) 32,Start m j:=by
  intro j hj
  obtain ⟨a,b',c⟩:=Jv.1 hj
  exact ⟨by omega,c⟩
 have hLl:=Ow m (32*n) 32
 obtain ⟨τ2,o2,e2,s2,n2,m4,m5⟩:=YW k hk hg _ hL (by omega) s i1 (Cj m (32*n) 32).length 0 (k+3) (64*n) [] (none,0,0) [] (Cd.nil _ _ _) (by intro a ha; cases ha) (Nat.zero_le _) (by omega) (by omega) (by omega)
 rw[List.drop_zero,List.nil_append] at s2 m5
 rw[List.drop_zero,List.append_nil] at e2
 rw[List.drop_zero] at m4
 have e2':Dl (k+3) (k+3) (Ca i) s.1 s.2.1 s.2.2 (none,0,0) ((64*n:Nat):Int) 0 (σ++τ1)=_:=e2
 have w1:Ac ((n:Int)*64)=((64*n:Nat):Int):=by rw[Ad (by unfold AY; omega)]; omega
 have w2:Ac ((n:Int)+1)=((n+1:Nat):Int):=by rw[Ad (by unfold AY; omega)]; omega
 have w3:Ac (((n+1:Nat):Int)*64)=((64*n+64:Nat):Int):=by rw[Ad (by unfold AY; omega)]; omega
 rw[Int.toNat_natCast]
 unfold aC
 generalize hG:EA m (Cj m (32*n) 32) (64*n)=G at e2' s2 m4 m5
 by_cases hq:G.2<64*n+64
 ·obtain ⟨o3,τ3,ea,s3,n3⟩:=MF ff dW fq rfl rfl (by decide) (by decide) (by decide) (σ++τ1) τ2 o2 G.1.length (Bj G.1) 1 1 (Bj [(G.2,64*n+64-G.2)]) Af (by omega) (by decide) rfl s2 n2
  have ea':Bn P Af (o2.1,o2.2.1,o2.2.2) (some ⟨(σ++τ1++τ2).length,0,none⟩,1,1) (σ++τ1++τ2++[AP.cells [.int .i64 (G.2:Int),.int .i64 ((64*n+64-G.2:Nat):Int)] Af true])=some (o3,σ++τ1++τ3):=ea
  have gl:Ja G.2 (64*n+64)=[(G.2,64*n+64-G.2)]:=by unfold Ja; rw[if_pos hq]
  have w:Ac (((64*n+64:Nat):Int)-(G.2:Int))=((64*n+64-G.2:Nat):Int):=by rw[Ad (by unfold AY; omega)]; omega
  refine ⟨τ1++τ3,o3, ?_, ?_,fun a ha=>by have:=n3 a ha; simp at this; omega⟩
  ·simp only[bne_self_eq_false,cond_false,e1,Option.bind_some,Hm,w1,e2',if_true,kH,w2,w3,decide_eq_true (show (G.2:Int)<((64*n+64:Nat):Int) by omega),cond_true,An,w,ea',GA]
   rw[List.append_assoc]
  ·rw[gl,KF,List.length_append,← List.append_assoc]; exact s3
 ·have gl:Ja G.2 (64*n+64)=[]:=by unfold Ja; rw[if_neg hq]
  refine ⟨τ1++τ2,o2, ?_, ?_,fun a ha=>by have:=n2 a ha; simp at this; omega⟩
  ·simp only[bne_self_eq_false,cond_false,e1,Option.bind_some,Hm,w1,e2',if_true,kH,w2,w3,decide_eq_false (show ¬ (G.2:Int)<((64*n+64:Nat):Int) by omega),cond_false,GA]
   rw[List.append_assoc]
  ·rw[gl,List.append_nil,← List.append_assoc]; exact s2
def Of (m:HM) (b n:Nat):List Bool:=(List.range n).map fun x=>XM m (64*b+8*x) 8
theorem g7 (m:HM) (b n:Nat):Of m b (n+1)=Of m b n++[XM m (64*b+8*n) 8]:=by
 unfold Of; rw[List.range_succ,List.map_append]; rfl
theorem Mj (m:HM) (b n:Nat):(Of m b n).length=n:=by unfold Of; simp
theorem kU (l l':List Bool):Gd (l++l')=Gd l++Gd l':=by unfold Gd; rw[List.map_append]
theorem su:HX P DW=some 1:=by kernel_rfl
theorem rZ:bytesOf P DW=some 1:=by kernel_rfl
theorem sy:FL P DW=some (.bool false):=by kernel_rfl
def C6 (m:HM) (b:Int):List Bool:=if Ii m b=1 then Of m b.toNat 8 else []
theorem Xv (k:Nat) (hk:5000≤k) (h:RG σ i m t) {b x:Nat} (hb:b<m.bls.length) (hx:x<8):∀ (n y f:Nat) (is:Bool) (τ:Aa),y+n=8→n<f →
  ∃ τ',DM (k+3) f (Ca i) (b:Int) (x:Int) is (y:Int) (σ++τ)=some (.exit 2,[.bool (is || XM m (64*b+8*x+y) n)],σ++τ')
 | 0,y,0,is,τ,hy,hf=>by omega
 | 0,y,f+1,is,τ,hy,hf=>by
   rw[L8,JL,XM,Bool.or_false]
   exact ⟨τ,by simp only[decide_eq_false (show ¬ (y:Int)<8 by omega),cond_false]⟩
 | n+1,y,0,is,τ,hy,hf=>by omega
 | n+1,y,f+1,is,τ,hy,hf=>by
   have hnt:=h.nt
   have hwl:=h.wl
   have hg:=h.app τ
   obtain ⟨τ1,e1⟩:=nW k hk hg ((64*b+8*x+y:Nat):Int)
   have w1:Ac ((b:Int)*64)=((64*b:Nat):Int):=by rw[Ad (by unfold AY; omega)]; omega
   have w2:Ac ((x:Int)*8)=((8*x:Nat):Int):=by rw[Ad (by unfold AY; omega)]; omega
   have w3:Ac (((64*b:Nat):Int)+((8*x:Nat):Int))=((64*b+8*x:Nat):Int):=by rw[Ad (by unfold AY; omega)]; omega
   have w4:Ac (((64*b+8*x:Nat):Int)+(y:Int))=((64*b+8*x+y:Nat):Int):=by rw[Ad (by unfold AY; omega)]; omega
   have w5:Ac ((y:Int)+1)=((y+1:Nat):Int):=Ad (by unfold AY; omega)
   have hfi:Nq m ((64*b+8*x+y:Nat):Int)=Ra m (64*b+8*x+y):=by unfold Nq; rw[if_pos (by omega),Int.toNat_natCast]
   rw[hfi,List.append_assoc] at e1
   obtain ⟨τ2,e2⟩:=Xv k hk h hb hx n (y+1) f (is || (Ra m (64*b+8*x+y)).isSome) (τ++τ1) (by omega) (by omega)
   refine ⟨τ2, ?_⟩
   rw[show 64*b+8*x+(y+1)=64*b+8*x+y+1 from by omega] at e2
   rw[L8,JL,XM,← Bool.or_assoc]
   simp only[decide_eq_true (show (y:Int)<8 by omega),cond_true,w1,w2,w3,w4,w5,e1,Option.bind_some]
   rw[← e2]
   cases Ra m (64*b+8*x+y) with
   | none=>cases is <;> simp only[Ew,Option.bind_some,cond_true,cond_false,show ((4:Int) == 0)=false from rfl,Option.isSome_none,Bool.or_false,Bool.or_self]
   | some j=>cases is <;> simp only[Ew,Option.bind_some,cond_true,cond_false,beq_self_eq_true,Option.isSome_some,Bool.or_true,Bool.or_self]
theorem Xu (k:Nat) (hk:5000≤k) (h:RG σ i m t) {b:Nat} (hb:b<m.bls.length):∀ (n x f:Nat) (τ:Aa) (o:EF),Cd DW 1 (σ++τ) o x (Gd (Of m b x))→(∀ q,o.1=some q→σ.length≤q.block)→x+n=8→n<f →
  ∃ τ' o',DL (k+3) f (Ca i) (b:Int) (o.1,o.2.1,o.2.2) (x:Int) (σ++τ)=some (.exit 0,[.slice o'.1 o'.2.1 o'.2.2],σ++τ')∧Cd DW 1 (σ++τ') o' 8 (Gd (Of m b 8))∧(∀ q,o'.1=some q→σ.length≤q.block)
 | 0,x,0,τ,o,hR,ho,hx,hf=>by omega
 | 0,x,f+1,τ,o,hR,ho,hx,hf=>by
   have:x=8:=by omega
   subst this
   rw[L7,JK]
   exact ⟨τ,o,by simp only[show decide (((8:Nat):Int)<8)=false from rfl,cond_false],hR,ho⟩
 | n+1,x,0,τ,o,hR,ho,hx,hf=>by omega
 | n+1,x,f+1,τ,o,hR,ho,hx,hf=>by
   obtain ⟨τ1,e1⟩:=Xv k hk (h.app τ) hb (show x<8 by omega) 8 0 (k+3) false [] (by omega) (by omega)
   rw[Nat.add_zero,Bool.false_or,List.append_nil,List.append_assoc] at e1
   have e1':DM (k+3) (k+3) (Ca i) (b:Int) (x:Int) false 0 (σ++τ)=_:=e1
   have hR1:Cd DW 1 (σ++(τ++τ1)) o x (Gd (Of m b x)):=by rw[← List.append_assoc]; exact hR.app τ1
   obtain ⟨o2,τ2,ea,s2,n2⟩:=MF su rZ sy rfl rfl (by decide) (by decide) (by decide) σ (τ++τ1) o x (Gd (Of m b x)) 1 1 (Gd [XM m (64*b+8*x) 8]) DW (by omega) (by decide) rfl hR1 ho
   have ea':Bn P DW (o.1,o.2.1,o.2.2) (some ⟨(σ++(τ++τ1)).length,0,none⟩,1,1) (σ++(τ++τ1)++[AP.cells [.bool (XM m (64*b+8*x) 8)] DW true])=some (o2,σ++τ2):=ea
   rw[← kU,← g7] at s2
   obtain ⟨τ3,o3,e3,s3,n3⟩:=Xu k hk h hb n (x+1) f τ2 o2 s2 n2 (by omega) (by omega)
   refine ⟨τ3,o3, ?_,s3,n3⟩
   have w5:Ac ((x:Int)+1)=((x+1:Nat):Int):=Ad (by unfold AY; omega)
   rw[L7,JK]
   simp only[decide_eq_true (show (x:Int)<8 by omega),cond_true,e1',Option.bind_some,if_true,T8,An,Nat.add_zero,ea',w5]
   exact e3
theorem lZ (k:Nat) (hk:5000≤k) (h:RG σ i m t) (b:Int):∃ τ s,Hc (k+4) (Ca i) b σ=some (.slice s.1 s.2.1 s.2.2,σ++τ)∧Cd DW 1 (σ++τ) s (C6 m b).length (Gd (C6 m b)) ∧ ∀ a,s.1=some a→σ.length≤a.block:=by
 rw[TQ,PU]
 have eS:Bi (k+3) (Ca i) b σ=_:=Ss (k+1) h b
 simp only[eS,Option.bind_some,Ao]
 unfold C6
 by_cases hc:Ii m b=1
 rotate_left
 ·rw[if_neg hc,bne_iff_ne.2 hc]
  exact ⟨[],(none,0,0),by simp only[cond_true,List.append_nil],Cd.nil _ _ _,by intro a ha; cases ha⟩
 rw[if_pos hc,hc]
 obtain ⟨n,rfl,hn,hst⟩:=Y1 hc
 obtain ⟨τ2,o2,e2,s2,n2⟩:=Xu k hk h hn 8 0 (k+3) [] (none,0,0) (Cd.nil _ _ _) (by intro a ha; cases ha) (by omega) (by omega)
 rw[List.append_nil] at e2
 have e2':DL (k+3) (k+3) (Ca i) (n:Int) (none,0,0) 0 σ=_:=e2
 refine ⟨τ2,o2, ?_,by rw[Int.toNat_natCast,Mj]; exact s2,n2⟩
 simp only[bne_self_eq_false,cond_false,e2',Option.bind_some,if_true,GA]
end Go.Proofs.YtlaplcglpnlieaaGreat
end
section
namespace Go.Proofs.YtlaplcglpnlieaaGreat
open Go Go.AX
noncomputable local instance uZ:AK:=Au
local instance tV:Kn:=⟨true⟩
variable {σ:Aa} {m:HM} {t:RM} {i:RI}
def WH (om:List (EF × EF)):List Nat:=om.flatMap fun p=>hs p.1++hs p.2
theorem aK (s:EF):(hs s).Nodup:=by
 unfold hs
 cases s.1 <;> simp
theorem RI.Ka {j:Nat}:j ∈ i.l↔j=i.hb∨j ∈ hs i.bs∨j ∈ hs i.os∨j ∈ hs i.fs∨j ∈ WH i.om:=by
 unfold RI.l WH
 simp only[List.mem_cons,List.mem_append]
structure Sep (i:RI):Prop where
 hA:i.hb ∉ hs i.bs
 hB:i.hb ∉ hs i.os
 hC:i.hb ∉ hs i.fs
 hD:i.hb ∉ WH i.om
 AB:∀ a ∈ hs i.bs,a ∉ hs i.os
 AC:∀ a ∈ hs i.bs,a ∉ hs i.fs
 AD:∀ a ∈ hs i.bs,a ∉ WH i.om
 BC:∀ a ∈ hs i.os,a ∉ hs i.fs
 BD:∀ a ∈ hs i.os,a ∉ WH i.om
 CD:∀ a ∈ hs i.fs,a ∉ WH i.om
 D:(WH i.om).Nodup
theorem Sep.of (h:i.l.Nodup):Sep i:=by
 have h:(i.hb::(hs i.bs++(hs i.os++(hs i.fs++WH i.om)))).Nodup:=h
 obtain ⟨h1,h2⟩:=List.nodup_cons.1 h
 simp only[List.mem_append,not_or] at h1
 obtain ⟨_,h3,h4⟩:=List.nodup_append.1 h2
 obtain ⟨_,h5,h6⟩:=List.nodup_append.1 h3
 obtain ⟨_,h7,h8⟩:=List.nodup_append.1 h5
 exact ⟨h1.1,h1.2.1,h1.2.2.1,h1.2.2.2,fun a ha hb=>h4 a ha a (List.mem_append.2 (.inl hb)) rfl,fun a ha hb=>h4 a ha a (List.mem_append.2 (.inr (List.mem_append.2 (.inl hb)))) rfl,fun a ha hb=>h4 a ha a (List.mem_append.2 (.inr (List.mem_append.2 (.inr hb)))) rfl,
  fun a ha hb=>h6 a ha a (List.mem_append.2 (.inl hb)) rfl,fun a ha hb=>h6 a ha a (List.mem_append.2 (.inr hb)) rfl,fun a ha hb=>h8 a ha a hb rfl,h7⟩
theorem Sep.nd (h:Sep i):i.l.Nodup:=by
 show (i.hb::(hs i.bs++(hs i.os++(hs i.fs++WH i.om)))).Nodup
 refine List.nodup_cons.2 ⟨?_,List.nodup_append.2 ⟨aK _,List.nodup_append.2 ⟨aK _,List.nodup_append.2 ⟨aK _,h.D, ?_⟩, ?_⟩, ?_⟩⟩
 ·simp only[List.mem_append,not_or]
  exact ⟨h.hA,h.hB,h.hC,h.hD⟩
 ·intro a ha b hb e
  subst e
  exact h.CD a ha hb
 ·intro a ha b hb e
  subst e
  rcases List.mem_append.1 hb with hb | hb
  ·exact h.BC a ha hb
  ·exact h.BD a ha hb
 ·intro a ha b hb e
  subst e
  rcases List.mem_append.1 hb with hb | hb
  ·exact h.AB a ha hb
  ·rcases List.mem_append.1 hb with hb | hb
   ·exact h.AC a ha hb
   ·exact h.AD a ha hb
theorem N5.sep (h:N5 σ i t):Sep i:=Sep.of h.nd
theorem Ww {om:List (EF × EF)} {x b:Nat} (hx:x<om.length) (h:b ∈ hs om[x].1∨b ∈ hs om[x].2):b ∈ WH om:=
 List.mem_flatMap.2 ⟨_,List.getElem_mem hx,List.mem_append.2 h⟩
theorem Xg {s:EF} {q:Nat} (e:s.1=some ⟨q,0,none⟩):q ∈ hs s:=JR.2 ⟨_,e,rfl⟩
theorem PG {L:List Nat} {q b:Nat} {c:AP} (hq:q ∉ L) (hb:b ∈ L):(σ.set q c)[b]?=σ[b]?:=
 List.getElem?_set_ne (fun e:q=b=>hq (by rw[e]; exact hb))
structure GV (i i':RI) (σ σ':Aa):Prop where
 len:σ.length≤σ'.length
 same:∀ j,j<σ.length→j ∉ i.l→σ'[j]?=σ[j]?
 new:∀ j,j ∈ i'.l→j ∈ i.l∨σ.length≤j
 hb:i'.hb=i.hb
theorem GV.refl (i:RI) (σ:Aa):GV i i σ σ:=⟨Nat.le_refl _,fun _ _ _=>rfl,fun _ h=>.inl h,rfl⟩
theorem GV.app (i:RI) (σ τ:Aa):GV i i σ (σ++τ):=⟨by simp,fun j hj _=>List.getElem?_append_left hj,fun _ h=>.inl h,rfl⟩
theorem GV.trans {a b c:Aa} {i i' i'':RI} (h:GV i i' a b) (g:GV i' i'' b c):GV i i'' a c:=by
 refine ⟨Nat.le_trans h.len g.len,fun j h1 h2=>?_,fun j hj=>?_,g.hb.trans h.hb⟩
 ·refine (g.same j (Nat.lt_of_lt_of_le h1 h.len) fun hm=>?_).trans (h.same j h1 h2)
  rcases h.new j hm with h3 | h3
  ·exact h2 h3
  ·omega
 ·rcases g.new j hj with h1 | h1
  ·exact h.new j h1
  ·exact .inr (Nat.le_trans h.len h1)
theorem GV.set {q:Nat} (σ:Aa) (c:AP) (h:q ∈ i.l):GV i i σ (σ.set q c):=
 ⟨by simp,fun j hj hn=>List.getElem?_set_ne (fun e:q=j=>hn (by rw[← e]; exact h)),fun _ h=>.inl h,rfl⟩
def Ho (mm:Option (Value × Aa)) (σ:Aa) (i:RI) (v:Value) (m':HM):Prop:=
 ∃ σ' i' t',mm=some (v,σ')∧N5 σ' i' t'∧RQ m' t'∧NM m'∧GV i i' σ σ'
theorem Ho.same (h:RG σ i m t) (hP:NM m) (τ:Aa) {v:Value} {mm:Option (Value × Aa)} (he:mm=some (v,σ++τ)):Ho mm σ i v m:=
 ⟨σ++τ,i,t,he,h.at_.app τ,h.sim,hP,GV.app i σ τ⟩
theorem Ho.Ro (h:RG σ i m t) (hP:NM m) {v:Value} {mm:Option (Value × Aa)} (he:mm=some (v,σ)):Ho mm σ i v m:=
 ⟨σ,i,t,he,h.at_,h.sim,hP,GV.refl i σ⟩
theorem N5.nL {μ:Aa} {i:RI} {t:RM} (bl:Cd AA 2 μ i.bs t.bl.length (C3 t.bl)) (ob:Cd Aj 8 μ i.os t.ob.length (HN t.ob i.om)) (fw:dL μ i.fs t.fw) (ol:i.om.length=t.ob.length)
  (inn:∀ (x:Nat) (h:x<t.ob.length) (h':x<i.om.length),KU μ i.om[x].1 t.ob[x].refs∧KU μ i.om[x].2 t.ob[x].data) (sep:Sep i) (lt:∀ j ∈ i.l,j<μ.length):
  N5 (μ.set i.hb (.cells [.slice i.bs.1 i.bs.2.1 i.bs.2.2,.slice i.os.1 i.os.2.1 i.os.2.2,.slice i.fs.1 i.fs.2.1 i.fs.2.2,.int .i64 t.born] EE true)) i t where
 hp:=List.getElem?_set_self (lt _ i.R5)
 bl:=bl.Dd fun a ha=>PG (sep.hA) (JR.2 ⟨a,ha,rfl⟩)
 ob:=ob.Dd fun a ha=>PG (sep.hB) (JR.2 ⟨a,ha,rfl⟩)
 fw:=fw.Dd fun a ha=>PG (sep.hC) (JR.2 ⟨a,ha,rfl⟩)
 ol:=ol
 inn:=fun x h h'=>⟨(inn x h h').1.Dd fun b hb=>PG (sep.hD) (Ww h' (.inl hb)),(inn x h h').2.Dd fun b hb=>PG (sep.hD) (Ww h' (.inr hb))⟩
 nd:=sep.nd
 lt:=fun j hj=>by rw[List.length_set]; exact lt j hj
theorem N5.dE (h:N5 σ i t) {q:Nat} (e:i.bs.1=some ⟨q,0,none⟩) (l':List (Int × Int)) (hl:l'.length=t.bl.length):N5 (σ.set q (.cells (C3 l') AA true)) i { t with bl:=l' }:=by
 have sep:=h.sep
 have hq:=Xg e
 have hlt:=h.lt q (RI.Ka.2 (.inr (.inl hq)))
 refine { hp:=?_,bl:=?_,ob:=?_,fw:=?_,ol:=h.ol,inn:=?_,nd:=h.nd,lt:=fun j hj=>by rw[List.length_set]; exact h.lt j hj }
 ·rw[List.getElem?_set_ne (fun e':q=i.hb=>sep.hA (by rw[← e']; exact hq))]; exact h.hp
 ·have:=h.bl.form
  rw[e] at this
  exact .inr ⟨q,by rw[this,hl],Nat.zero_le _,by rw[EL]; omega,List.getElem?_set_self hlt⟩
 ·exact h.ob.Dd fun a ha=>PG (sep.AB q hq) (JR.2 ⟨a,ha,rfl⟩)
 ·exact h.fw.Dd fun a ha=>PG (sep.AC q hq) (JR.2 ⟨a,ha,rfl⟩)
 ·intro x h1 h2
  exact ⟨(h.inn x h1 h2).1.Dd fun b hb=>PG (sep.AD q hq) (Ww h2 (.inl hb)),(h.inn x h1 h2).2.Dd fun b hb=>PG (sep.AD q hq) (Ww h2 (.inr hb))⟩
theorem N5.qO (h:N5 σ i t) {b:Nat} (hb:b<t.bl.length) (x y:Int):∃ q,i.bs.1=some ⟨q,0,none⟩∧Kj σ q (b*2) [.int .i64 x,.int .i64 y]=some (σ.set q (.cells (C3 (t.bl.set b (x,y))) AA true)) ∧
  N5 (σ.set q (.cells (C3 (t.bl.set b (x,y))) AA true)) i { t with bl:=t.bl.set b (x,y) }∧GV i i σ (σ.set q (.cells (C3 (t.bl.set b (x,y))) AA true)):=by
 obtain ⟨q,e,l0,l1,hc⟩:=Vm h.bl hb
 refine ⟨q,e, ?_,h.dE e _ (by simp),GV.set _ _ (RI.Ka.2 (.inr (.inl (Xg e))))⟩
 have:b*2+2≤(C3 t.bl).length:=by rw[EL]; omega
 simp only[Kj,hc,List.length_cons,List.length_nil,Nat.zero_add,Nat.reduceAdd,this,if_true,Sa _ _ _ _ hb]
theorem N5.sr (h:N5 σ i t) {b:Nat} (hb:b<t.bl.length) (y:Int):∃ q,i.bs.1=some ⟨q,0,none⟩∧AX.Gz σ q (b*2+1) (.int .i64 y)=some (σ.set q (.cells (C3 (t.bl.set b ((t.bl.getD b (0,0)).1,y))) AA true)) ∧
  N5 (σ.set q (.cells (C3 (t.bl.set b ((t.bl.getD b (0,0)).1,y))) AA true)) i { t with bl:=t.bl.set b ((t.bl.getD b (0,0)).1,y) }∧GV i i σ (σ.set q (.cells (C3 (t.bl.set b ((t.bl.getD b (0,0)).1,y))) AA true)):=by
 obtain ⟨q,e,l0,l1,hc⟩:=Vm h.bl hb
 refine ⟨q,e, ?_,h.dE e _ (by simp),GV.set _ _ (RI.Ka.2 (.inr (.inl (Xg e))))⟩
 have:b*2+1<(C3 t.bl).length:=by rw[EL]; omega
 simp only[AX.Gz,hc,this,if_true,cz _ _ _ hb]
theorem fK (l:List (Int × Int)) (b:Nat) (x:Int) (hb:b<l.length):(C3 l).set (b*2) (.int .i64 x)=C3 (l.set b (x,(l.getD b (0,0)).2)):=by
 rw[Sa _ _ _ _ hb]
 have h1:=(RZ l b hb).2
 rw[Nat.mul_comm] at h1
 have hlen:=EL l
 apply List.ext_getElem?
 intro p
 unfold AF
 by_cases hp:p=b*2
 ·subst hp
  rw[List.getElem?_set_self (by omega),List.append_assoc,List.getElem?_append_right (by simp; omega)]
  simp[List.length_take,Nat.min_eq_left (show b*2≤(C3 l).length by omega)]
 ·rw[List.getElem?_set_ne (Ne.symm hp),List.append_assoc]
  by_cases h2:p<b*2
  ·rw[List.getElem?_append_left (by simp; omega),List.getElem?_take_of_lt h2]
  ·rw[List.getElem?_append_right (by simp; omega),List.length_take,Nat.min_eq_left (show b*2≤(C3 l).length by omega)]
   by_cases h3:p=b*2+1
   ·subst h3
    rw[h1,show b*2+1-b*2=1 from by omega]
    rfl
   ·rw[List.getElem?_append_right (by simp; omega),List.getElem?_drop]
    congr 1
    simp only[List.length_cons,List.length_nil]
    omega
theorem N5.sT (h:N5 σ i t) {b:Nat} (hb:b<t.bl.length) (x:Int):∃ q,i.bs.1=some ⟨q,0,none⟩∧AX.Gz σ q (b*2) (.int .i64 x)=some (σ.set q (.cells (C3 (t.bl.set b (x,(t.bl.getD b (0,0)).2))) AA true)) ∧
  N5 (σ.set q (.cells (C3 (t.bl.set b (x,(t.bl.getD b (0,0)).2))) AA true)) i { t with bl:=t.bl.set b (x,(t.bl.getD b (0,0)).2) }∧GV i i σ (σ.set q (.cells (C3 (t.bl.set b (x,(t.bl.getD b (0,0)).2))) AA true)):=by
 obtain ⟨q,e,l0,l1,hc⟩:=Vm h.bl hb
 refine ⟨q,e, ?_,h.dE e _ (by simp),GV.set _ _ (RI.Ka.2 (.inr (.inl (Xg e))))⟩
 have:b*2<(C3 t.bl).length:=by rw[EL]; omega
 simp only[AX.Gz,hc,this,if_true,fK _ _ _ hb]
theorem Rb (l:List (Int × Int)) (b c:Nat) (e:Int × Int):(l.set b e).getD c (0,0)=if c=b∧b<l.length then e else l.getD c (0,0):=by
 rw[List.getD_eq_getElem?_getD,List.getElem?_set]
 by_cases h:b=c
 ·subst h
  by_cases h2:b<l.length
  ·simp[h2]
  ·simp[h2]
 ·rw[if_neg h,if_neg (fun hh=>h hh.1.symm),List.getD_eq_getElem?_getD]
theorem Z4 (b:Nat) (e:Int × Int):∀ (n x:Nat) (l:List (Int × Int)) (c:Nat),b+x+n≤l.length→(Vz l b e n x).getD c (0,0)=if b+x≤c∧c<b+x+n then e else l.getD c (0,0)
 | 0,x,l,c,h=>by rw[Vz,if_neg (by omega)]
 | n+1,x,l,c,h=>by
   rw[Vz,Z4 b e n (x+1) _ c (by rw[List.length_set]; omega),Rb]
   by_cases h1:b+(x+1)≤c∧c<b+(x+1)+n
   ·rw[if_pos h1,if_pos (show b+x≤c∧c<b+x+(n+1) by omega)]
   ·rw[if_neg h1]
    by_cases h2:c=b+x
    ·rw[if_pos ⟨h2,by omega⟩,if_pos (show b+x≤c∧c<b+x+(n+1) by omega)]
    ·rw[if_neg (show ¬ (c=b+x∧b+x<l.length) from fun hh=>h2 hh.1),if_neg (show ¬ (b+x≤c∧c<b+x+(n+1)) by omega)]
theorem bM (b:Nat) (y:Int):∀ (n:Nat) (l:List (Int × Int)) (c:Nat),b+n≤l.length→(Y2 l b y n).getD c (0,0)=if b≤c∧c<b+n then ((l.getD c (0,0)).1,y) else l.getD c (0,0)
 | 0,l,c,h=>by rw[Y2,if_neg (by omega)]
 | n+1,l,c,h=>by
   rw[Y2,bM b y n _ c (by rw[List.length_set]; omega),Rb]
   by_cases h2:c=b+n
   ·subst h2
    rw[if_neg (show ¬ (b≤b+n∧b+n<b+n) by omega),if_pos ⟨rfl,by omega⟩,if_pos (show b≤b+n∧b+n<b+(n+1) by omega)]
   ·rw[if_neg (show ¬ (c=b+n∧b+n<l.length) from fun hh=>h2 hh.1)]
    by_cases h1:b≤c∧c<b+n
    ·rw[if_pos h1,if_pos (show b≤c∧c<b+(n+1) by omega)]
    ·rw[if_neg h1,if_neg (show ¬ (b≤c∧c<b+(n+1)) by omega)]
def ir (l:List (Int × Int)) (b:Nat) (y:Int):Nat→Nat→List (Int × Int)
 | 0,_=>l
 | n+1,x=>ir (l.set (b+x) ((l.getD (b+x) (0,0)).1,y)) b y n (x+1)
theorem Zf (b:Nat) (y:Int):∀ (n x:Nat) (l:List (Int × Int)),(ir l b y n x).length=l.length
 | 0,x,l=>rfl
 | n+1,x,l=>by rw[ir,Zf b y n]; simp
theorem dH (b:Nat) (y:Int):∀ (n x:Nat) (l:List (Int × Int)) (c:Nat),b+x+n≤l.length→(ir l b y n x).getD c (0,0)=if b+x≤c∧c<b+x+n then ((l.getD c (0,0)).1,y) else l.getD c (0,0)
 | 0,x,l,c,h=>by rw[ir,if_neg (by omega)]
 | n+1,x,l,c,h=>by
   rw[ir,dH b y n (x+1) _ c (by rw[List.length_set]; omega),Rb]
   by_cases h2:c=b+x
   ·subst h2
    rw[if_neg (show ¬ (b+(x+1)≤b+x∧b+x<b+(x+1)+n) by omega),if_pos ⟨rfl,by omega⟩,if_pos (show b+x≤b+x∧b+x<b+x+(n+1) by omega)]
   ·rw[if_neg (show ¬ (c=b+x∧b+x<l.length) from fun hh=>h2 hh.1)]
    by_cases h1:b+(x+1)≤c∧c<b+(x+1)+n
    ·rw[if_pos h1,if_pos (show b+x≤c∧c<b+x+(n+1) by omega)]
    ·rw[if_neg h1,if_neg (show ¬ (b+x≤c∧c<b+x+(n+1)) by omega)]
theorem gj {l l':List (Int × Int)} (hl:l.length=l'.length) (h:∀ c,l.getD c (0,0)=l'.getD c (0,0)):l=l':=by
 apply List.ext_getElem hl
 intro n h1 h2
 have:=h n
 rw[List.getD_eq_getElem?_getD,List.getD_eq_getElem?_getD,List.getElem?_eq_getElem h1,List.getElem?_eq_getElem h2] at this
 exact this
theorem oR {l:List (Int × Int)} {b n:Nat} (h:b+n≤l.length):Vz l b (0,0) n 0=bh l b n:=
 gj (by rw[G1,OT]) fun c=>by rw[Z4 b _ n 0 l c (by omega),St b n l c,Nat.add_zero]
theorem o7 {l:List (Int × Int)} {b n:Nat} {y:Int} (h:b+n≤l.length):ir l b y n 0=Y2 l b y n:=
 gj (by rw[Zf,OW]) fun c=>by rw[dH b y n 0 l c (by omega),bM b y n l c h,Nat.add_zero]
def FZ (m:HM):Prop:=∀ c,(m.bls.getD c (0,0)).1=0→(m.bls.getD c (0,0)).2=0
theorem X3 {b:Nat}:∀ (f n:Nat),(m.bls.getD b (0,0)).1=1∨(m.bls.getD b (0,0)).1=2→1≤n→(∀ c,1≤c→c<n→(m.bls.getD (b+c) (0,0)).1=3) → ∀ c,c<Hj m b f n→(m.bls.getD (b+c) (0,0)).1≠0
 | 0,n,h,hn,h3,c,hc=>by
   rw[Hj] at hc
   by_cases c0:c=0
   ·subst c0; rw[Nat.add_zero]; omega
   ·rw[h3 c (by omega) hc]; decide
 | f+1,n,h,hn,h3,c,hc=>by
   rw[Hj] at hc
   split at hc
   ·rename_i hcond
    exact X3 f (n+1) h (by omega) (fun c' h1 h2=>by
     by_cases e:c'=n
     ·rw[e]; exact hcond.2.2
     ·exact h3 c' h1 (by omega)) c hc
   ·by_cases c0:c=0
    ·subst c0; rw[Nat.add_zero]; omega
    ·rw[h3 c (by omega) hc]; decide
theorem Vt {l:List (Int × Int)} {b:Nat} (hz:∀ c,(l.getD c (0,0)).1=0→(l.getD c (0,0)).2=0):∀ (n x:Nat),Im l b n x=none ↔ ∀ c,x≤c→c<x+n→(l.getD (b+c) (0,0)).1=0
 | 0,x=>by simp[Im]; intro c h1 h2; omega
 | n+1,x=>by
   rw[Im]
   by_cases h:(l.getD (b+x) (0,0)).1=0
   ·rw[if_pos ⟨h,hz _ h⟩,Vt hz n (x+1)]
    constructor
    ·intro g c h1 h2
     by_cases e:c=x
     ·rw[e]; exact h
     ·exact g c (by omega) (by omega)
    ·intro g c h1 h2
     exact g c (by omega) (by omega)
   ·rw[if_neg (fun hh=>h hh.1)]
    constructor
    ·intro g; cases g
    ·intro g; exact absurd (g x (Nat.le_refl _) (by omega)) h
end Go.Proofs.YtlaplcglpnlieaaGreat
end
