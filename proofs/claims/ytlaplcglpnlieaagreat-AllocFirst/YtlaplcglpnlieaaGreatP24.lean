/-
 AllocFirst: what the law's function comes to.
-/
import Derived.Test.YtlaplcglpnlieaaGreatP23
set_option linter.unusedVariables false
set_option linter.unusedSimpArgs false
namespace Go.Proofs.YtlaplcglpnlieaaGreat
open Go Go.AX
noncomputable local instance u7:AL:=As
local instance tr:Kn:=⟨true⟩
variable {σ:Aa} {m:HM} {i:C8} {ab:Nat} {a:AS}
theorem fq {r d c:Int} {pr:PR} (hz:(BG m a r d c pr).1.2=0):valid r d c=true∧pr.1.2=true∧(BG m a r d c pr).1.1=pr.1.1:=by
 unfold BG at *
 split at hz
 ·rename_i q0
  split at hz
  ·rename_i q1
   split at hz
   ·rename_i q2
    split at hz
    ·rename_i q3
     rw[if_pos q0,if_pos q1,if_pos q2,if_pos q3]
     exact ⟨q0,q1,rfl⟩
    ·cases hz
   ·cases hz
  ·cases hz
 ·cases hz
theorem Wg (w ad:Int):∀ (R:List (Nat × Nat)) (b:Bool) (z:Int),(IC w ad R b z).1=(b || R.any fun g=>decide ((g.2:Int)≥w))
 | [],b,z=>by simp[IC]
 | g::R,b,z=>by rw[IC,Wg w ad R,List.any_cons,Bool.or_assoc]
theorem Uu (w ad:Int):∀ (R:List (Nat × Nat)) (b:Bool) (z:Int),(∀ g ∈ R,(g.1:Int)≠ad)→(IC w ad R b z).2=z
 | [],b,z,_=>rfl
 | g::R,b,z,h=>by
   rw[IC,if_neg (h g (by simp))]
   exact Uu w ad R _ _ fun g' hg=>h g' (by simp[hg])
theorem cE (w:Int) {g:Nat × Nat}:∀ (R:List (Nat × Nat)) (b:Bool) (z:Int),iy R→g ∈ R→(IC w (g.1:Int) R b z).2=(g.2:Int)
 | [],b,z,_,h=>by simp at h
 | x::R,b,z,hi,h=>by
   have hp:=List.pairwise_cons.1 hi
   rw[IC]
   rcases List.mem_cons.1 h with rfl | h
   ·rw[if_pos rfl,Uu _ _ R _ _ fun g' hg=>by have:=hp.1 g' hg; omega]
   ·exact cE w R _ _ hp.2 h
theorem Yg {s:Int} {w:Nat} {g:Nat × Nat}:g ∈ BQ m s 0 w↔g ∈ Lb m s∧w≤g.2:=by
 unfold BQ Lb
 rw[List.mem_filterMap]
 constructor
 ·rintro ⟨g',h1,h2⟩
  have h3:=US h2
  subst h3
  refine ⟨h1, ?_⟩
  unfold JL at h2
  split at h2
  ·omega
  ·cases h2
 ·rintro ⟨h1,h2⟩
  refine ⟨g,h1, ?_⟩
  unfold JL
  obtain ⟨x,y⟩:=g
  dsimp only at h2 ⊢
  rw[if_pos (by omega)]
  congr 2 <;> omega
theorem kX (M:WH m) (hw:m.wds.length=64*m.bls.length) (s:Int):iy (Lb m s):=Wk M.inv M.inv2 hw _ (Uj m s _) fun b hb=>(MD.1 hb).1
theorem mT (M:WH m) (hw:m.wds.length=64*m.bls.length) {s:Int} {g:Nat × Nat} (hg:g ∈ Lb m s):∃ b,b<m.bls.length∧(m.bls.getD b (0,0)).1=1∧(m.bls.getD b (0,0)).2=s∧64*b≤g.1∧g.1+g.2≤64*b+64∧0<g.2∧g ∈ Fg m (b:Int):=by
 unfold Lb Dg at hg
 obtain ⟨b,hb,h⟩:=List.mem_flatMap.1 hg
 obtain ⟨h1,h2,h3⟩:=MD.1 hb
 obtain ⟨h4,h5,h6⟩:=(UW M.inv M.inv2 hw b h1).2 g h
 exact ⟨b,h1,h2,h3,h4,h5,h6,h⟩
theorem kW (M:WH m) (ho:a.ok) (hw:m.wds.length=64*m.bls.length) {r d c:Int} (be:Bool) (hp:a.p=bif be then 1 else 0) (h32:words r d c≤32) (hc:(Vn m a r d c).1.2=0):
  ((IC (words r d c) (Vn m a r d c).1.1 (Lb m a.s) false (-1)).1=false∧(IC (words r d c) (Vn m a r d c).1.1 (Lb m a.s) false (-1)).2<0∧((Vn m a r d c).1.1).tmod 64=0) ∨
  ((IC (words r d c) (Vn m a r d c).1.1 (Lb m a.s) false (-1)).1=true∧(IC (words r d c) (Vn m a r d c).1.1 (Lb m a.s) false (-1)).2≥words r d c ∧ ∀ g ∈ Lb m a.s,(g.2:Int)≥words r d c→(be=false→¬ (g.1:Int)<(Vn m a r d c).1.1)∧(be=true→¬ (g.2:Int)<(IC (words r d c) (Vn m a r d c).1.1 (Lb m a.s) false (-1)).2∧((g.2:Int)=(IC (words r d c) (Vn m a r d c).1.1 (Lb m a.s) false (-1)).2→¬ (g.1:Int)<(Vn m a r d c).1.1))):=by
 obtain ⟨hv,h1,h2⟩:=fq hc
 have h2':(Vn m a r d c).1.1=(YQ m a (words r d c)).1.1:=h2
 rw[h2']
 have hw0:=KR hv
 obtain ⟨W,hW⟩:∃ W:Nat,words r d c=(W:Int):=⟨(words r d c).toNat,by omega⟩
 rw[hW] at h1 h32 hw0 ⊢
 have hinc:=kX M hw a.s
 have hincF:=cI M.inv M.inv2 hw a.s W
 obtain ⟨K,hK1,hK2,hK3⟩:∃ K,YQ m a (W:Int)=Ca m a K∧(K=[]→BQ m a.s 0 W=[]) ∧ ∀ g K',K=g::K'→g ∈ BQ m a.s 0 W ∧ ∀ g' ∈ BQ m a.s 0 W,(be=false→g.1≤g'.1)∧(be=true→g=g'∨Wr g g'):=by
  unfold YQ
  rw[if_neg (by omega)]
  cases be with
  | false=>
    have hp':a.p=0:=hp
    rw[if_pos hp',Int.toNat_natCast]
    refine ⟨_,rfl,id,fun g K' e=>?_⟩
    rw[e]
    rw[e] at hincF
    refine ⟨by simp,fun g' hg=>⟨fun _=>?_,fun hh=>by cases hh⟩⟩
    rcases List.mem_cons.1 hg with rfl | hg
    ·exact Nat.le_refl _
    ·exact Nat.le_of_lt ((List.pairwise_cons.1 hincF).1 g' hg)
  | true=>
    have hp':a.p=1:=hp
    rw[if_neg (by omega),if_pos hp',Int.toNat_natCast]
    refine ⟨_,rfl,fun e=>?_,fun g K' e=>?_⟩
    ·cases hb:Kp (BQ m a.s 0 W) with
     | none=>exact XN hb
     | some x=>rw[hb] at e; cases e
    ·cases hb:Kp (BQ m a.s 0 W) with
     | none=>rw[hb] at e; cases e
     | some x=>
       rw[hb] at e
       cases e
       obtain ⟨g1,g2⟩:=Wc hincF hb
       refine ⟨g1,fun g' hg=>⟨fun hh=>(by cases hh),fun _=>?_⟩⟩
       rcases g2 g' hg with rfl | h
       ·exact .inl rfl
       ·exact .inr h
 rw[hK1] at h1 ⊢
 cases K with
 | nil=>
   left
   have hnil:=hK2 rfl
   unfold Ca at h1 ⊢
   cases hb:Qh m with
   | none=>rw[hb] at h1; cases h1
   | some b=>
     have hfs:=HW hb
     dsimp only
     refine ⟨?_, ?_,Int.mul_tmod_right _ _⟩
     ·rw[Wg,Bool.false_or,List.any_eq_false]
      intro g hg
      rw[decide_eq_true_eq]
      intro hh
      have:g ∈ BQ m a.s 0 W:=Yg.2 ⟨hg,by omega⟩
      rw[hnil] at this
      simp at this
     ·rw[Uu]
      ·decide
      ·intro g hg
       obtain ⟨b',q1,q2,q3,q4,q5,q6,_⟩:=mT M hw hg
       intro e
       have:b'=b:=by omega
       subst this
       rw[hfs.2.2.1] at q2
       cases q2
 | cons g K'=>
   right
   obtain ⟨g1,g2⟩:=hK3 g K' rfl
   obtain ⟨g3,g4⟩:=Yg.1 g1
   simp only[Ca]
   have hz:(IC (W:Int) (g.1:Int) (Lb m a.s) false (-1)).2=(g.2:Int):=cE _ _ _ _ hinc g3
   rw[hz]
   refine ⟨?_,by omega,fun g' hg' hw'=>?_⟩
   ·rw[Wg,Bool.false_or,List.any_eq_true]
    exact ⟨g,g3,decide_eq_true (by omega)⟩
   ·obtain ⟨k1,k2⟩:=g2 g' (Yg.2 ⟨hg',by omega⟩)
    refine ⟨fun hb=>by have:=k1 hb; omega,fun hb=>?_⟩
    rcases k2 hb with rfl | h
    ·exact ⟨by omega,fun _=>by omega⟩
    ·unfold Wr at h
     exact ⟨by omega,fun _=>by omega⟩
theorem bQ (k:Nat) (hk:1000000≤k) {σ:Aa} (b:Int) (hb:Bd b) (s:Int) (hs:Bd s) (be:Bool) (p:Option Addr) (c2:Nat) (l:List Zf) (hok:∀ y ∈ l,y.ok) (S:QG Y6 σ p l) (r:Int) (hr:Bd r) (d:Int) (hd:Bd d) (c:Int) (hc:Bd c):
  ∃ σ',fn P (XK Kn.b) H (k+19) Vx [.int .i64 b,.int .i64 s,.bool be,.slice p l.length c2,.agg #[.int .i64 r,.int .i64 d,.int .i64 c]] σ=some (.bool true,σ'):=by
 rw[show [Value.int .i64 b,.int .i64 s,.bool be,.slice p l.length c2,.agg #[.int .i64 r,.int .i64 d,.int .i64 c]]=[.int .i64 b,.int .i64 s,.bool be,.slice (p,l.length,c2).1 (p,l.length,c2).2.1 (p,l.length,c2).2.2,.agg #[.int .i64 r,.int .i64 d,.int .i64 c]] from rfl,Vz,TB,PJ]
 simp only[Ap]
 obtain ⟨μ,hμ⟩:∃ μ,σ++[Bh.cells [Value.int .i64 r,.int .i64 d,.int .i64 c] Al true]=μ:=⟨_,rfl⟩
 have hbox:μ[σ.length]?=some (Bh.cells [Value.int .i64 r,.int .i64 d,.int .i64 c] Al true):=by rw[← hμ]; simp
 have hlt:σ.length<μ.length:=Af hbox
 have ldq:∀ (μ':Aa),μ'[σ.length]?=μ[σ.length]?→Ai .i64 μ' σ.length 0=some r∧Ai .i64 μ' σ.length 1=some d∧Ai .i64 μ' σ.length 2=some c:=by
  intro μ' h
  rw[hbox] at h
  refine ⟨?_, ?_, ?_⟩ <;> simp[Ai,Gt,h,BE]
 have Sμ:QG Y6 μ p l:=hμ ▸ S.app _
 rw[hμ]
 have hpo:(bif be then (some (.normal,[.int .i64 (1:Int)],μ)) else (some (.normal,[.int .i64 (0:Int)],μ)):Option Aw)=some (.normal,[.int .i64 (bif be then 1 else 0)],μ):=by cases be <;> rfl
 simp only[hpo,Option.bind_some,if_true,D0]
 rcases nv k hk b s (bif be then 1 else 0) p c2 l hok Sμ with ⟨σ1,e0⟩ | ⟨σ1,i,ab,m,a,e0,Y⟩
 ·simp only[e0,Option.bind_some,km,rP,cond_true,Qp,Au]
  exact ⟨_,rfl⟩
 obtain ⟨a0,a1,a2⟩:=ldq σ1 (Y.same _ hlt)
 have hle:=Y.len
 obtain ⟨τ2,e2⟩:=LD (k+16) r d c σ1
 simp only[e0,Option.bind_some,km,qW,cond_false,Nat.zero_add,Nat.reduceAdd,a0,a1,a2,e2,An]
 by_cases g32:words r d c>32
 ·simp only[decide_eq_true g32,cond_true,Qp,Option.bind_some,Au]
  exact ⟨_,rfl⟩
 obtain ⟨τ3,sl,e3,S3,lo3⟩:=mS (k+10) (by omega) (Y.h.app τ2) Y.M.inv Y.M.b0 s
 have e3':KJ (k+18) (DZ i) s (σ1++τ2)=_:=e3
 obtain ⟨σ3,hσ3⟩:∃ σ3,σ1++τ2++τ3=σ3:=⟨_,rfl⟩
 rw[hσ3] at e3' S3
 have s3:∀ x,x<σ1.length→σ3[x]?=σ1[x]?:=fun x hx=>by rw[← hσ3,List.append_assoc,List.getElem?_append_left hx]
 have hl3:σ1.length≤σ3.length:=by rw[← hσ3]; simp
 have hl3':(σ1++τ2).length≤σ3.length:=by rw[← hσ3]; simp
 have H3:Ah σ3 i m:=hσ3 ▸ (Y.h.app τ2).app τ3
 have A3:Cf σ3 ab i a:=hσ3 ▸ (Y.al.app τ2).app τ3
 obtain ⟨b0,b1,b2⟩:=ldq σ3 (by rw[s3 _ (by omega)]; exact Y.same _ hlt)
 have kp:∀ {ρ:Type} (y:Option ρ),Qo (some ⟨σ.length,0,none⟩) (σ1++τ2) σ3 y=y:=fun y=>UZ (by rw[← hσ3,List.getElem?_append_left (show σ.length<(σ1++τ2).length by simp; omega)]) y
 obtain ⟨τ4,e4⟩:=LD (k+16) r d c σ3
 obtain ⟨σ4,hσ4⟩:∃ σ4,σ3++τ4=σ4:=⟨_,rfl⟩
 rw[hσ4] at e4
 have s4:∀ x,x<σ3.length→σ4[x]?=σ3[x]?:=fun x hx=>by rw[← hσ4,List.getElem?_append_left hx]
 have hl4:σ3.length≤σ4.length:=by rw[← hσ4]; simp
 obtain ⟨c0,c1,c2'⟩:=ldq σ4 (by rw[s4 _ (by omega),s3 _ (by omega)]; exact Y.same _ hlt)
 have H4:Ah σ4 i m:=hσ4 ▸ H3.app τ4
 have A4:Cf σ4 ab i a:=hσ4 ▸ A3.app τ4
 have hbr:=Y.br
 obtain ⟨σ5,e5,H5,A5,K5⟩:=cm (k+5) (by omega) H4 A4 Y.off Y.ok Y.M.inv Y.M.inv2 Y.M.b0 (by omega) r d c
 have e5':AN (k+18) (DK ab) r d c σ4=_:=e5
 simp only[decide_eq_false g32,cond_false,e3',Option.bind_some,Hu,kp,b0,b1,b2,e4,An,c0,c1,c2',e5',Ex]
 by_cases g0:(Vn m a r d c).1.2=0
 rotate_left
 ·simp only[show ((Vn m a r d c).1.2 != 0)=true from by simpa using g0,cond_true,Qp,Option.bind_some,Au]
  exact ⟨_,rfl⟩
 have hlaw:=kW Y.M Y.ok Y.h.wl be Y.ep (by omega) g0
 rw[Y.es] at hlaw
 have S5:BI Ae 2 σ5 sl (Lb m s).length (AJ (Lb m s)):=S3.Db fun x hx=>by
  have h1:=lo3 x hx
  have h2:=S3.lt x hx
  have hix:x.block ∉ i.l:=fun hm=>by have:=Y.h.lt _ hm; simp at h1; omega
  have ha:=Y.al.lt
  rw[K5.same _ (by omega) hix (by simp at h1; omega),s4 _ h2]
 have hgl:(Lb m s).length≤10000:=by
  have aux:∀ L:List Nat,(Dg m L).length≤33*L.length:=by
   intro L
   induction L with
   | nil=>simp[Dg]
   | cons b L ih=>
     have:=M9 m (b:Int)
     simp only[Dg,List.flatMap_cons,List.length_append,List.length_cons] at ih ⊢
     omega
  have h1:=aux (Bl m s m.bls.length)
  have h2:=IP m s m.bls.length
  have h3:=Y.M.nt
  unfold Lb; omega
 have e6:=YE (k+18) S5 hgl (words r d c) (Vn m a r d c).1.1 (Lb m s).length 0 (k+18) false (-1) (by omega) (by omega)
 rw[List.drop_zero,show ((0:Nat):Int)=0 from rfl] at e6
 simp only[g0,bne_self_eq_false,cond_false,S3.len,e6,Option.bind_some,if_true,pz]
 rcases hlaw with ⟨h1,h2,h3⟩ | ⟨h1,h2,h3⟩
 ·simp only[h1,Bool.not_false,cond_true,decide_eq_true h2,show ((64:Int)=0)=False from by simp,if_false,h3,beq_self_eq_true,Option.bind_some,Qp,Au]
  exact ⟨_,rfl⟩
 ·have e7:=YF (k+18) S5 hgl be (words r d c) (Vn m a r d c).1.1 (IC (words r d c) (Vn m a r d c).1.1 (Lb m s) false (-1)).2 h3 (Lb m s).length 0 (k+18) (by omega) (by omega)
  rw[show ((0:Nat):Int)=0 from rfl] at e7
  simp only[h1,Bool.not_true,cond_false,e7,Option.bind_some,if_true,decide_eq_true h2,cond_true,Qp,Au]
  exact ⟨_,rfl⟩
end Go.Proofs.YtlaplcglpnlieaaGreat
