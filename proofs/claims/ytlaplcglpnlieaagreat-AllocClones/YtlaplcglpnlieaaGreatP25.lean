/-
 AllocClones: what the law's function comes to.
-/
import Derived.Test.YtlaplcglpnlieaaGreatP24
set_option linter.unusedVariables false
set_option linter.unusedSimpArgs false
namespace Go.Proofs.YtlaplcglpnlieaaGreat
open Go Go.AX
noncomputable local instance w8:AN:=Au
local instance vi:Kn:=⟨true⟩
variable {σ:Aa} {m:HM} {i:C9} {ab:Nat} {a:AS}
theorem fJ {p:Option Addr} {l:List qh} (h:OY Zr σ p l) {x:Nat} (hx:x<l.length):∃ q,p=some ⟨q,0,none⟩∧q<σ.length∧Ai .i64 σ q (x*3)=some l[x].r∧Ai .i64 σ q (x*3+1)=some l[x].d∧Ai .i64 σ q (x*3+2)=some l[x].c:=by
 obtain ⟨q,h1,h2,h3⟩:=h.ld fK hx
 have a0:=h3 0 (by decide)
 have a1:=h3 1 (by decide)
 have a2:=h3 2 (by decide)
 refine ⟨q,h1,h2, ?_, ?_, ?_⟩
 ·unfold Ai; rw[show G0 σ q (x*3)=_ from a0]; rfl
 ·unfold Ai; rw[show G0 σ q (x*3+1)=_ from a1]; rfl
 ·unfold Ai; rw[show G0 σ q (x*3+2)=_ from a2]; rfl
def Vp (m:HM) (a:AS):List qh→HM × AS
 | []=>(m,a)
 | y::l=>Vp (dx m a y.r y.d y.c).2.1 (dx m a y.r y.d y.c).2.2 l
theorem Br.same {lo:Nat} {σ':Aa} {s:Ex} {l:List Int} (h:Br lo σ s l) (hh:∀ q,lo≤q→q<σ.length→σ'[q]?=σ[q]?):Br lo σ' s l:=by
 rcases h with h | ⟨b,h1,h2,h3,h4⟩
 ·exact .inl h
 ·exact .inr ⟨b,h1,h2,h3,by rw[hh b h1 (Ae h4),h4]⟩
theorem mX (M:UJ m) (ho:a.ok) (l:List qh):UJ (Vp m a l).1:=by
 induction l generalizing m a with
 | nil=>exact M
 | cons y l ih=>exact ih (gj M _ _ _) (jZ M ho _ _ _).ok
theorem cx (h:m.bls.length≤64):(Xp m).length≤2048:=by
 have:=MM m 0 (32*m.bls.length)
 simp only[Xp,Cf,List.length_map]
 omega
theorem RN (k:Nat) (hk:5000≤k) (h:Af σ i m) (hI:Inv m):∃ τ s,EP (k+8) (De i) σ=some (.slice s.1 s.2.1 s.2.2,σ++τ)∧Br σ.length (σ++τ) s (QX (Xp m)):=by
 have ht:=h.nt
 obtain ⟨τ1,s1,e1,h1⟩:=rO (k+1) (by omega) h
 have h1':Br σ.length (σ++τ1) s1 (DA (Cf m)):=h1
 have hlen:=cx (m:=m) ht
 have hll:(Cf m).length=(Xp m).length:=by simp[Xp]
 have key:(∃ p,s1=(p,(Cf m).length,s1.2.2)):=⟨s1.1,by rw[show s1=(s1.1,s1.2.1,s1.2.2) from rfl,h1'.len]; simp[DA]⟩
 obtain ⟨σ',s,e,g,hs⟩:=V6 (i:=i) (σ:=σ++τ1) k hI (p:=s1.1) (c:=s1.2.1) (c2:=s1.2.2) (fun σ' hσ'=>by
  rcases h1' with ⟨he,rfl⟩ | ⟨b,g1,g2,g3,g4⟩
  ·exact .inl ⟨he,rfl⟩
  ·exact .inr ⟨b,Nat.zero_le _,g2,g3,by rw[hσ' b (by rw[g2]),g4]⟩) (by rw[h1'.len]; simp[DA]) (Cf m).length 0 (k+7) (σ++τ1) (none,0,0) [] (h.app τ1) (fun q hq=>⟨rfl,by
   rcases h1' with ⟨he,rfl⟩ | ⟨b,g1,g2,g3,g4⟩
   ·cases hq
   ·rw[g2] at hq; cases hq; exact Ae g4⟩) (fun a ha=>by cases ha) (fun q hq a ha=>by cases ha) (.inl ⟨rfl,rfl⟩) rfl (by omega) (by omega) (by omega)
 obtain ⟨⟨τ,rfl⟩,hn⟩:=g.tail
 have e1':H9 (k+7) (De i) σ=_:=e1
 refine ⟨τ1++τ,s, ?_, ?_⟩
 ·rw[show ((0:Nat):Int)=0 from rfl] at e
  rw[Xc,Un]
  simp only[e1',Option.bind_some,GJ,e,if_true,Gk,List.append_assoc]
 ·rw[List.nil_append,List.drop_zero] at hs
  rw[← List.append_assoc]
  exact hs.up fun a ha=>by have:=hn a ha; simp at this; omega
theorem XL (k:Nat) (hk:60000≤k) {σ0:Aa} {p:Option Addr} {c2:Nat} {l:List qh} (S:OY Zr σ0 p l) (hl:l.length≤40) (hi:∀ q ∈ i.l,σ0.length≤q) (hab:ab ∉ i.l) (hab0:σ0.length≤ab):∀ (n x f:Nat) (σ:Aa) (m:HM) (a:AS),Af σ i m→BJ σ ab i a→a.ok→UJ m→m.births≤100+x→(∀ q,q<σ0.length→σ[q]?=σ0[q]?)→σ0.length≤σ.length→x+n=l.length→n<f →
  ∃ σ',D2 (k+13) f p l.length c2 (CV ab) (x:Int) σ=some (.exit 0,[],σ')∧Af σ' i (Vp m a (l.drop x)).1∧BJ σ' ab i (Vp m a (l.drop x)).2∧Cb i ab σ σ'
 | n,x,0,σ,m,a,h,hA,ho,M,hb,hs,hle,hx,hf=>by omega
 | 0,x,f+1,σ,m,a,h,hA,ho,M,hb,hs,hle,hx,hf=>by
   rw[Lx,J4,List.drop_eq_nil_of_le (by omega)]
   exact ⟨σ,by simp only[decide_eq_false (show ¬ (x:Int)<((l.length:Nat):Int) by omega),cond_false],h,hA,Cb.refl _⟩
 | n+1,x,f+1,σ,m,a,h,hA,ho,M,hb,hs,hle,hx,hf=>by
   have hxl:x<l.length:=by omega
   obtain ⟨q1,rfl,hq1,f0,f1,f2⟩:=fJ (S.CO hs) hxl
   have w1:Ac ((x:Int)+1)=((x+1:Nat):Int):=Ad (by unfold Bd; omega)
   obtain ⟨σ1,e1,h1,A1,K1⟩:=Y0 k (by omega) h hA hab ho M.inv M.inv2 M.b0 (by omega) l[x].r l[x].d l[x].c
   have ok:=jZ M ho l[x].r l[x].d l[x].c
   have hb2:=ok.b2
   obtain ⟨σ2,e2,h2,A2,K2⟩:=XL k hk (c2:=c2) S hl hi hab hab0 n (x+1) f σ1 _ _ h1 A1 ok.ok (gj M _ _ _) (by omega) (fun q hq=>by rw[K1.same q (by omega) (fun hm=>by have:=hi q hm; omega) (by omega)]; exact hs q hq) (by have:=K1.len; omega) (by omega) (by omega)
   rw[List.drop_eq_getElem_cons hxl,Vp]
   refine ⟨σ2, ?_,h2,A2,K1.trans K2⟩
   rw[Lx,J4]
   simp only[decide_eq_true (show (x:Int)<((l.length:Nat):Int) by omega),cond_true,if_pos (show (0:Int)≤(x:Int)∧(x:Int)<((l.length:Nat):Int) by omega),Option.bind_some,Int.toNat_natCast,Nat.zero_add,Nat.add_assoc,Nat.reduceAdd,f0,f1,f2,e1,Ed,w1]
   exact e2
theorem XM (k:Nat) (hk:60000≤k) {σ0:Aa} {p:Option Addr} {c2:Nat} {l:List qh} (S:OY Zr σ0 p l) (hl:l.length≤40) (hi:∀ q ∈ i.l,σ0.length≤q) (hab:ab ∉ i.l) (hab0:σ0.length≤ab):∀ (n x f:Nat) (σ:Aa) (m:HM) (a:AS),Af σ i m→BJ σ ab i a→a.ok→UJ m→m.births≤100+x→(∀ q,q<σ0.length→σ[q]?=σ0[q]?)→σ0.length≤σ.length→x+n=l.length→n<f →
  ∃ σ',D3 (k+13) f p l.length c2 (CV ab) (x:Int) σ=some (.exit 2,[],σ')∧Af σ' i (Vp m a (l.drop x)).1∧BJ σ' ab i (Vp m a (l.drop x)).2∧Cb i ab σ σ'
 | n,x,0,σ,m,a,h,hA,ho,M,hb,hs,hle,hx,hf=>by omega
 | 0,x,f+1,σ,m,a,h,hA,ho,M,hb,hs,hle,hx,hf=>by
   rw[Ly,J5,List.drop_eq_nil_of_le (by omega)]
   exact ⟨σ,by simp only[decide_eq_false (show ¬ (x:Int)<((l.length:Nat):Int) by omega),cond_false],h,hA,Cb.refl _⟩
 | n+1,x,f+1,σ,m,a,h,hA,ho,M,hb,hs,hle,hx,hf=>by
   have hxl:x<l.length:=by omega
   obtain ⟨q1,rfl,hq1,f0,f1,f2⟩:=fJ (S.CO hs) hxl
   have w1:Ac ((x:Int)+1)=((x+1:Nat):Int):=Ad (by unfold Bd; omega)
   obtain ⟨σ1,e1,h1,A1,K1⟩:=Y0 k (by omega) h hA hab ho M.inv M.inv2 M.b0 (by omega) l[x].r l[x].d l[x].c
   have ok:=jZ M ho l[x].r l[x].d l[x].c
   have hb2:=ok.b2
   obtain ⟨σ2,e2,h2,A2,K2⟩:=XM k hk (c2:=c2) S hl hi hab hab0 n (x+1) f σ1 _ _ h1 A1 ok.ok (gj M _ _ _) (by omega) (fun q hq=>by rw[K1.same q (by omega) (fun hm=>by have:=hi q hm; omega) (by omega)]; exact hs q hq) (by have:=K1.len; omega) (by omega) (by omega)
   rw[List.drop_eq_getElem_cons hxl,Vp]
   refine ⟨σ2, ?_,h2,A2,K1.trans K2⟩
   rw[Ly,J5]
   simp only[decide_eq_true (show (x:Int)<((l.length:Nat):Int) by omega),cond_true,if_pos (show (0:Int)≤(x:Int)∧(x:Int)<((l.length:Nat):Int) by omega),Option.bind_some,Int.toNat_natCast,Nat.zero_add,Nat.add_assoc,Nat.reduceAdd,f0,f1,f2,e1,Ed,w1]
   exact e2
theorem aO (k:Nat) (hk:1000000≤k) {σ:Aa} (b:Int) (hb:Bd b) (s:Int) (hs:Bd s) (q:Int) (hq:Bd q) (p:Option Addr) (c2:Nat) (l:List aa) (hok:∀ y ∈ l,y.ok) (S:OY bc σ p l) (p2:Option Addr) (c3:Nat) (l2:List qh) (hok2:∀ y ∈ l2,y.ok) (S2:OY Zr σ p2 l2):
  ∃ σ',fn P (XK Kn.b) H (k+19) Vo [.int .i64 b,.int .i64 s,.int .i64 q,.slice p l.length c2,.slice p2 l2.length c3] σ=some (.bool true,σ'):=by
 rw[show [Value.int .i64 b,.int .i64 s,.int .i64 q,.slice p l.length c2,.slice p2 l2.length c3]=[.int .i64 b,.int .i64 s,.int .i64 q,.slice (p,l.length,c2).1 (p,l.length,c2).2.1 (p,l.length,c2).2.2,.slice (p2,l2.length,c3).1 (p2,l2.length,c3).2.1 (p2,l2.length,c3).2.2] from rfl,V0,T9,PH]
 rcases pk k hk b s q p c2 l hok S with ⟨σ1,e0⟩ | ⟨σ1,i,ab,m,a,e0,Y⟩
 ·simp only[e0,Option.bind_some,mq,tO,cond_true,Xn,As]
  exact ⟨_,rfl⟩
 simp only[e0,Option.bind_some,mq,ta,cond_false]
 by_cases g40:((l2.length:Nat):Int)>40
 ·simp only[decide_eq_true g40,cond_true,Xn,Option.bind_some,As]
  exact ⟨_,rfl⟩
 simp only[decide_eq_false g40,cond_false]
 obtain ⟨τ1,i',e1,h1',lo1⟩:=oa (k+15) Y.h
 have e1':G4 (k+18) (De i) σ1=_:=e1
 have hi1:∀ x ∈ i.l,x<σ1.length:=fun x hx=>Y.h.lt x hx
 have ha1:=Y.al.lt
 have hl1:=Y.len
 have hlx:σ1.length≤(σ1++τ1).length:=by simp
 have e2:=mB (k+15) (Y.al.app τ1) h1'
 have e2':Ei (k+18) (CV ab) (De i') (σ1++τ1)=_:=e2
 obtain ⟨cb,hcb⟩:∃ cb,(σ1++τ1).length=cb:=⟨_,rfl⟩
 obtain ⟨σ2,hσ2⟩:∃ σ2,σ1++τ1++[AP.cells (a.row i'.hb) AG true]=σ2:=⟨_,rfl⟩
 have hA2':BJ σ2 cb i' a:=by unfold BJ; rw[← hσ2,← hcb]; simp
 have hA2:BJ σ2 ab i a:=hσ2 ▸ (Y.al.app _).app _
 have hH2':Af σ2 i' m:=hσ2 ▸ h1'.app _
 have hH2:Af σ2 i m:=hσ2 ▸ (Y.h.app _).app _
 have hl2:σ2.length=cb+1:=by rw[← hσ2,← hcb]; simp; omega
 have hi2':∀ x ∈ i'.l,σ1.length≤x∧x<cb:=fun x hx=>⟨lo1 x hx,by have:=h1'.lt x hx; omega⟩
 have hncb:cb ∉ i'.l:=fun hm=>by have:=hi2' _ hm; omega
 rw[hσ2,hcb] at e2'
 have s2:∀ x,x<σ.length→σ2[x]?=σ[x]?:=fun x hx=>by
  rw[← hσ2,List.append_assoc,List.getElem?_append_left (by omega)]; exact Y.same x hx
 obtain ⟨τ3,sl3,e3,I3⟩:=RN (k+10) (by omega) hH2 Y.M.inv
 have e3':EP (k+18) (De i) σ2=_:=e3
 obtain ⟨σ3,hσ3⟩:∃ σ3,σ2++τ3=σ3:=⟨_,rfl⟩
 rw[hσ3] at e3' I3
 have hl3:σ2.length≤σ3.length:=by rw[← hσ3]; simp
 have s3:∀ x,x<σ2.length→σ3[x]?=σ2[x]?:=fun x hx=>by rw[← hσ3,List.getElem?_append_left hx]
 have hY:m.births≤80:=Y.br
 obtain ⟨σ4,e4,H4',A4',K4⟩:=XL (i:=i') (ab:=cb) (k+5) (by omega) (c2:=c3) S2 (by omega) (fun x hx=>by have:=hi2' x hx; omega) hncb (by omega) l2.length 0 (k+18) σ3 m a (hσ3 ▸ hH2'.app _) (hσ3 ▸ hA2'.app _) Y.ok Y.M (by omega) (fun x hx=>by rw[s3 x (by omega)]; exact s2 x hx) (by omega) (by omega) (by omega)
 have e4':D2 (k+18) (k+18) p2 l2.length c3 (CV cb) 0 σ3=_:=e4
 rw[List.drop_zero] at H4' A4'
 have H4:Af σ4 i m:=(hσ3 ▸ hH2.app _:Af σ3 i m).CO fun x hx=>K4.same x (by have:=hi1 x hx; omega) (fun hm=>by have:=hi2' x hm; have:=hi1 x hx; omega) (by have:=hi1 x hx; omega)
 have A4:BJ σ4 ab i a:=(hσ3 ▸ hA2.app _:BJ σ3 ab i a).CO (K4.same ab (by omega) (fun hm=>by have:=hi2' ab hm; omega) (by omega))
 have I4:Br σ2.length σ4 sl3 (QX (Xp m)):=I3.same fun x h1 h2=>K4.same x h2 (fun hm=>by have:=hi2' x hm; omega) (by omega)
 obtain ⟨τ5,sl5,e5,I5⟩:=RN (k+10) (by omega) H4 Y.M.inv
 have e5':EP (k+18) (De i) σ4=_:=e5
 obtain ⟨σ5,hσ5⟩:∃ σ5,σ4++τ5=σ5:=⟨_,rfl⟩
 rw[hσ5] at e5' I5
 have hl4:=K4.len
 have hl5:σ4.length≤σ5.length:=by rw[← hσ5]; simp
 have s5:∀ x,x<σ4.length→σ5[x]?=σ4[x]?:=fun x hx=>by rw[← hσ5,List.getElem?_append_left hx]
 have hob:=cx (m:=m) Y.M.nt
 have hp1:(QX (Xp m)).length≤10000:=by rw[TN]; omega
 have e6:=cS (k+16) I5 ((hσ5 ▸ I4.app _:Br σ2.length σ5 sl3 (QX (Xp m)))) (by omega) (Nat.le_refl _) (by omega)
 have e6':HQ (k+18) (sl5.1,sl5.2.1,sl5.2.2) (sl3.1,sl3.2.1,sl3.2.2) σ5=_:=e6
 obtain ⟨σ6,e7,H6,A6,K6⟩:=XM (i:=i) (ab:=ab) (k+5) (by omega) (c2:=c3) S2 (by omega) Y.lo Y.off Y.loa l2.length 0 (k+18) σ5 m a (hσ5 ▸ H4.app _) (hσ5 ▸ A4.app _) Y.ok Y.M (by omega) (fun x hx=>by
  rw[s5 x (by omega),K4.same x (by omega) (fun hm=>by have:=hi2' x hm; omega) (by omega),s3 x (by omega)]; exact s2 x hx) (by omega) (by omega) (by omega)
 have e7':D3 (k+18) (k+18) p2 l2.length c3 (CV ab) 0 σ5=_:=e7
 rw[List.drop_zero] at H6 A6
 have H6':Af σ6 i' (Vp m a l2).1:=(hσ5 ▸ H4'.app _:Af σ5 i' _).CO fun x hx=>K6.same x (by have:=hi2' x hx; omega) (fun hm=>by have:=hi2' x hx; have:=hi1 x hm; omega) (by have:=hi2' x hx; omega)
 have A6':BJ σ6 cb i' (Vp m a l2).2:=(hσ5 ▸ A4'.app _:BJ σ5 cb i' _).CO (K6.same cb (by omega) (fun hm=>by have:=hi1 cb hm; omega) (by omega))
 have M6:=mX Y.M Y.ok l2
 generalize Vp m a l2=mm at *
 have e8:CP (k+18) (CV ab) σ6=_:=bd (k+16) A6
 have e9:CP (k+18) (CV cb) σ6=_:=bd (k+16) A6'
 obtain ⟨τ7,sl7,e10,I7⟩:=RN (k+10) (by omega) H6 M6.inv
 have e10':EP (k+18) (De i) σ6=_:=e10
 obtain ⟨τ8,sl8,e11,I8⟩:=RN (k+10) (by omega) (H6'.app τ7) M6.inv
 have e11':EP (k+18) (De i') (σ6++τ7)=_:=e11
 have hob2:=cx (m:=mm.1) M6.nt
 have hp2:(QX (Xp mm.1)).length≤10000:=by rw[TN]; omega
 have e12:=cS (k+16) (I7.app τ8) I8 (by omega) (Nat.le_refl _) (by omega)
 have e12':HQ (k+18) (sl7.1,sl7.2.1,sl7.2.2) (sl8.1,sl8.2.1,sl8.2.2) (σ6++τ7++τ8)=_:=e12
 obtain ⟨τ9,sl9,e13,I9⟩:=df (k+14) (by omega) ((H6.app τ7).app τ8)
 have e13':Hk (k+18) (De i) (σ6++τ7++τ8)=_:=e13
 obtain ⟨τ10,sl10,e14,I10⟩:=df (k+14) (by omega) (((H6'.app τ7).app τ8).app τ9)
 have e14':Hk (k+18) (De i') (σ6++τ7++τ8++τ9)=_:=e14
 have hp3:(QX mm.1.bls).length≤10000:=by rw[TN]; have:=M6.nt; omega
 have e15:=cS (k+16) (I9.app τ10) I10 (by omega) (Nat.le_refl _) (by omega)
 have e15':HQ (k+18) (sl9.1,sl9.2.1,sl9.2.2) (sl10.1,sl10.2.1,sl10.2.2) (σ6++τ7++τ8++τ9++τ10)=_:=e15
 simp only[e1',Option.bind_some,Wc,e2',sZ,cond_false,e3',GJ,e4',if_true,e5',e6',As,decide_true,Bool.not_true,e7',e8,nI,e9,e10',e11',e12',cond_true,e13',e14',e15',beq_self_eq_true,Xn]
 exact ⟨_,rfl⟩
end Go.Proofs.YtlaplcglpnlieaaGreat
