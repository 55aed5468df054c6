/- The document's heap: blocks claimed, released, retagged.; The document's heap: objects put into the list and cut from it.; The document's heap: words, -/
import Derived.Test.YtjbledomkmdkmaaGreatP26
import Derived.Test.YtjbledomkmdkmaaGreatP25
set_option linter.unusedVariables false
set_option linter.unusedSimpArgs false
set_option linter.unusedSectionVars false
section
namespace Go.Proofs.YtjbledomkmdkmaaGreat
open Go Go.AX
noncomputable local instance qRX:A9:=Aw
local instance nRX:Kn:=⟨true⟩
variable {σ:Aa} {m:HM} {t:RM} {i:RI}
theorem sA (k:Nat) (h:RG σ i m t) (b:Int):Fv (k+1) (Cq i) b σ=some (.bool (decide (1≤b∧b<(m.bls.length:Int))),σ):=by
 rw[aU,OY]
 try simp only[sw,Ad,Af,Ae]
 by_cases h0:1≤b
 ·rw[decide_eq_true (show b≥1 from h0)]
  simp only[cond_true,Option.bind_some,Nat.zero_add,Nat.add_zero,h.at_.K2,h.bn,h0,true_and]
 ·rw[decide_eq_false (show ¬ b≥1 from h0),decide_eq_false (fun hh=>h0 hh.1)]
  simp only[cond_false,Option.bind_some]
theorem sB (k:Nat) (y:Int) (σ:Aa):JD (k+1) y σ=some (.bool (qM y),σ):=by
 rw[kg,Xv]
 try simp only[sw,Ad,Af,Ae]
 unfold qM
 by_cases h0:0≤y <;> simp[h0]
theorem Abo (k:Nat) (h:RG σ i m t) (hP:OI m) (hz:FZ m) (b s:Int):Fx (G4 (k+2) (Cq i) b s σ) σ i (.int .i64 (De m b 1 1 s 0 0).1) (De m b 1 1 s 0 0).2:=by
 have hnt:=h.nt
 rw[aN,OR]
 try simp only[sw,Ad,Af,Ae]
 simp only[UJ k h,sA k h b,sB k s,Option.bind_some,Ar,Bool.not_true,cond_false]
 unfold De
 by_cases g0:1≤b∧b<(m.bls.length:Int)
 rotate_left
 ·rw[if_neg (fun hh=>g0 ⟨hh.1,hh.2.1⟩),decide_eq_false g0]
  exact Fx.Tw h hP (by simp only[Bool.not_false,cond_true,Option.bind_some])
 rw[decide_eq_true g0]
 simp only[Bool.not_true,cond_false,Option.bind_some]
 cases hs:qM s with
 | false=>
   rw[if_neg (fun hh=>by have:=hh.2.2.2.2; cases this)]
   exact Fx.Tw h hP (by simp only[Bool.not_false,cond_true])
 | true=>
   rw[if_pos ⟨g0.1,g0.2,by omega,by omega,rfl⟩]
   obtain ⟨n,rfl⟩:∃ n:Nat,b=(n:Int):=⟨b.toNat,by omega⟩
   have hn:n<m.bls.length:=by omega
   obtain ⟨q,e,l0,l1,hc⟩:=jj h hn
   have qx:(0≤(n:Int)∧(n:Int)<((m.bls.length:Nat):Int))=True:=eq_true (by omega)
   simp only[Bool.not_true,cond_false,Nat.zero_add,Nat.add_zero,h.at_.K2,h.bn,Option.bind_some,qx,if_true,e,Int.toNat_natCast,l0,show (1:Int).toNat=1 from rfl]
   have hu:Om m.bls n 1 0=none↔(m.bls.getD n (0,0)).1=0:=by
    rw[dP hz]
    constructor
    ·intro g; exact g 0 (Nat.le_refl _) (by omega)
    ·intro g c h1 h2
     rw[show c=0 from by omega]; exact g
   by_cases g1:(m.bls.getD n (0,0)).1=0
   ·rw[if_pos (hu.2 g1)]
    simp only[g1,bne_self_eq_false,cond_false]
    obtain ⟨q2,e2,e3,h3,k3⟩:=h.at_.stB (b:=n) (by rw[h.bn]; exact hn) 1 s
    have:q2=q:=by rw[e] at e2; cases e2; rfl
    subst this
    refine ⟨_,i,_,by simp only[e3,Option.bind_some],h3, ?_, ?_,k3⟩
    ·rw[h.sim.bl]
     have:(gj m.bls n (0,0) 1 0).set n (1,s)=m.bls.set n (1,s):=by
      show (m.bls.set (n+0) (0,0)).set n (1,s)=_
      rw[Nat.add_zero,List.set_set]
     rw[this]
     exact h.sim.blocks _ (by simp)
    ·exact hP.blocks _ (by rw[List.length_set,KV])
   ·rw[if_neg (fun hh=>g1 (hu.1 hh))]
    simp only[bne_iff_ne.2 g1,cond_true]
    exact Fx.Tw h hP rfl
theorem fE (k:Nat) (h:RG σ i m t) (hz:FZ m) {b c:Nat} (hbc:b+c≤m.bls.length):∀ (n x f:Nat),x+n=c→n<f→Cw k f (Cq i) (b:Int) (c:Int) ((b+x:Nat):Int) σ=some (match Om m.bls b n x with | none=>(.exit 0,[],σ) | some _=>(.ret,[.int .i64 8],σ))
 | 0,x,0,hx,hf=>by omega
 | 0,x,f+1,hx,hf=>by
   have hnt:=h.nt
   rw[K9,FD]
   try simp only[sw,Ad,Af,Ae]
   have w:Cf ((b:Int)+(c:Int))=((b+c:Nat):Int):=Ak (by unfold AU; omega)
   simp only[w,decide_eq_false (show ¬ ((b+x:Nat):Int)<((b+c:Nat):Int) by omega),cond_false,Om]
 | n+1,x,0,hx,hf=>by omega
 | n+1,x,f+1,hx,hf=>by
   have hnt:=h.nt
   rw[K9,FD]
   try simp only[sw,Ad,Af,Ae]
   rw[Om]
   have w:Cf ((b:Int)+(c:Int))=((b+c:Nat):Int):=Ak (by unfold AU; omega)
   have w1:Cf (((b+x:Nat):Int)+1)=((b+(x+1):Nat):Int):=Ak (by unfold AU; omega)
   obtain ⟨q,e,l0,l1,hc⟩:=jj h (b:=b+x) (by omega)
   have qx:(0≤((b+x:Nat):Int)∧((b+x:Nat):Int)<((m.bls.length:Nat):Int))=True:=eq_true (by omega)
   simp only[w,decide_eq_true (show ((b+x:Nat):Int)<((b+c:Nat):Int) by omega),cond_true,Nat.zero_add,Nat.add_zero,h.at_.K2,h.bn,Option.bind_some,qx,if_true,e,Int.toNat_natCast,l0]
   by_cases g:(m.bls.getD (b+x) (0,0)).1=0
   ·rw[if_pos ⟨g,hz _ g⟩]
    simp only[g,bne_self_eq_false,cond_false,w1]
    exact fE k h hz hbc n (x+1) f (by omega) (by omega)
   ·rw[if_neg (fun hh=>g hh.1)]
    simp only[bne_iff_ne.2 g,cond_true]
theorem fF (k:Nat) {b c:Nat} (s:Int):∀ (n x f:Nat) (σ:Aa) (t:RM),K5 σ i t→t.bl.length≤64→b+c≤t.bl.length→x+n=c→n<f →
  ∃ σ',Cx k f (Cq i) (b:Int) (c:Int) s ((b+x:Nat):Int) σ=some (.exit 2,[],σ')∧K5 σ' i { t with bl:=gj t.bl b (3,s) n x }∧Ib i i σ σ'
 | 0,x,0,σ,t,h,hl,hb,hx,hf=>by omega
 | 0,x,f+1,σ,t,h,hl,hb,hx,hf=>by
   rw[KA,FE]
   try simp only[sw,Ad,Af,Ae]
   have w:Cf ((b:Int)+(c:Int))=((b+c:Nat):Int):=Ak (by unfold AU; omega)
   exact ⟨σ,by simp only[w,decide_eq_false (show ¬ ((b+x:Nat):Int)<((b+c:Nat):Int) by omega),cond_false],h,Ib.refl _ _⟩
 | n+1,x,0,σ,t,h,hl,hb,hx,hf=>by omega
 | n+1,x,f+1,σ,t,h,hl,hb,hx,hf=>by
   have w:Cf ((b:Int)+(c:Int))=((b+c:Nat):Int):=Ak (by unfold AU; omega)
   have w1:Cf (((b+x:Nat):Int)+1)=((b+(x+1):Nat):Int):=Ak (by unfold AU; omega)
   obtain ⟨q,e,e3,h3,k3⟩:=h.stB (b:=b+x) (by omega) 3 s
   obtain ⟨σ',e4,h4,k4⟩:=fF k s n (x+1) f _ _ h3 (by show (t.bl.set _ _).length≤64; rw[List.length_set]; exact hl) (by show _≤(t.bl.set _ _).length; rw[List.length_set]; exact hb) (by omega) (by omega)
   refine ⟨σ', ?_,h4,k3.trans k4⟩
   rw[KA,FE]
   try simp only[sw,Ad,Af,Ae]
   have qx:(0≤((b+x:Nat):Int)∧((b+x:Nat):Int)<((t.bl.length:Nat):Int))=True:=eq_true (by omega)
   simp only[w,decide_eq_true (show ((b+x:Nat):Int)<((b+c:Nat):Int) by omega),cond_true,Nat.zero_add,Nat.add_zero,h.K2,Option.bind_some,qx,if_true,e,Int.toNat_natCast,e3,w1]
   exact e4
theorem po (k:Nat) (hk:100≤k) (h:RG σ i m t) (hP:OI m) (hz:FZ m) (b c s:Int) (hb:AU b) (hc:AU c):Fx (Eg (k+2) (Cq i) b c s σ) σ i (.int .i64 (De m b c 2 s 3 s).1) (De m b c 2 s 3 s).2:=by
 have hnt:=h.nt
 have hbn:=h.bn
 rw[Vy,Kf]
 try simp only[sw,Ad,Af,Ae]
 simp only[UJ k h,sA k h b,sB k s,Option.bind_some,Ar,Bool.not_true,cond_false]
 unfold De
 by_cases g0:1≤b∧b<(m.bls.length:Int)
 rotate_left
 ·rw[if_neg (fun hh=>g0 ⟨hh.1,hh.2.1⟩),decide_eq_false g0]
  exact Fx.Tw h hP (by simp only[Bool.not_false,cond_true,Option.bind_some])
 obtain ⟨n,rfl⟩:∃ n:Nat,b=(n:Int):=⟨b.toNat,by omega⟩
 have hn:n<m.bls.length:=by omega
 have wd:Cf (((m.bls.length:Nat):Int)-(n:Int))=((m.bls.length-n:Nat):Int):=by rw[Ak (by unfold AU; omega)]; omega
 rw[decide_eq_true g0]
 simp only[Bool.not_true,cond_false,Option.bind_some]
 by_cases g1:c<1
 ·rw[if_neg (fun hh=>by have:=hh.2.2.1; omega)]
  exact Fx.Tw h hP (by simp only[decide_eq_true g1,cond_true,Option.bind_some])
 simp only[decide_eq_false g1,cond_false,Option.bind_some,Nat.zero_add,Nat.add_zero,h.at_.K2,h.bn,wd]
 by_cases g2:c>((m.bls.length-n:Nat):Int)
 ·rw[if_neg (fun hh=>by have:=hh.2.2.2.1; omega)]
  exact Fx.Tw h hP (by simp only[decide_eq_true g2,cond_true,Option.bind_some])
 simp only[decide_eq_false g2,cond_false,Option.bind_some]
 cases hs:qM s with
 | false=>
   rw[if_neg (fun hh=>by have:=hh.2.2.2.2; cases this)]
   exact Fx.Tw h hP (by simp only[Bool.not_false,cond_true])
 | true=>
   rw[if_pos ⟨g0.1,g0.2,by omega,by omega,rfl⟩]
   obtain ⟨w,rfl⟩:∃ w:Nat,c=(w:Int):=⟨c.toNat,by omega⟩
   have hw:n+w≤m.bls.length:=by omega
   have e0:Cw (k+1) (k+1) (Cq i) (n:Int) (w:Int) (n:Int) σ=_:=fE (k+1) h hz hw w 0 (k+1) (by omega) (by omega)
   simp only[Bool.not_true,cond_false,e0,Option.bind_some,Int.toNat_natCast]
   cases g3:Om m.bls n w 0 with
   | none=>
     simp only[if_true]
     obtain ⟨σ1,e1,h1,k1⟩:=fF (i:=i) (k+1) (b:=n) (c:=w) s w 0 (k+1) σ t h.at_ (by rw[hbn]; exact hnt) (by rw[hbn]; exact hw) (by omega) (by omega)
     have e1':Cx (k+1) (k+1) (Cq i) (n:Int) (w:Int) s (n:Int) σ=_:=e1
     have hcl:(gj t.bl n (3,s) w 0).length=m.bls.length:=by rw[KV,hbn]
     obtain ⟨q,e2,e3,h3,k3⟩:=h1.stS (b:=n) (by show n<(gj t.bl n (3,s) w 0).length; omega) 2
     have hg:((gj t.bl n (3,s) w 0).getD n (0,0)).2=s:=by
      rw[tw n (3,s) w 0 t.bl n (by omega),if_pos (by omega)]
     have e3':AX.K3 σ1 q (n*2) (.int .i64 2)=some (σ1.set q (.cells (Dd ((gj t.bl n (3,s) w 0).set n (2,((gj t.bl n (3,s) w 0).getD n (0,0)).2))) Am true)):=e3
     have h3':K5 (σ1.set q (.cells (Dd ((gj t.bl n (3,s) w 0).set n (2,((gj t.bl n (3,s) w 0).getD n (0,0)).2))) Am true)) i { t with bl:=(gj t.bl n (3,s) w 0).set n (2,((gj t.bl n (3,s) w 0).getD n (0,0)).2) }:=h3
     have ld:Hx σ1 i.hb 0=some (i.bs.1,(gj t.bl n (3,s) w 0).length,(gj t.bl n (3,s) w 0).length):=h1.K2
     rw[hg] at e3' h3'
     have qx:(0≤(n:Int)∧(n:Int)<((m.bls.length:Nat):Int))=True:=eq_true (by omega)
     refine ⟨σ1.set q (.cells (Dd ((gj t.bl n (3,s) w 0).set n (2,s))) Am true),i,{ t with bl:=(gj m.bls n (3,s) w 0).set n (2,s) }, ?_, ?_, ?_, ?_⟩
     ·simp only[if_true,e1',Option.bind_some,ld,hcl,qx,if_true,e2,Int.toNat_natCast,Nat.zero_add,e3']
     ·rw[← h.sim.bl]; exact h3'
     ·exact h.sim.blocks _ (by rw[List.length_set,KV])
     ·exact ⟨hP.blocks _ (by rw[List.length_set,KV]),k1.trans (Ib.set _ _ (RI.Lu.2 (.inr (.inl (UE e2)))))⟩
   | some x0=>
     simp only[reduceCtorEq,if_false,if_true,FR]
     exact Fx.Tw h hP rfl
end Go.Proofs.YtjbledomkmdkmaaGreat
end
section
namespace Go.Proofs.YtjbledomkmdkmaaGreat
open Go Go.AX
noncomputable local instance qRY:A9:=Aw
local instance nRY:Kn:=⟨true⟩
variable {σ:Aa} {m:HM} {t:RM} {i:RI}
theorem Ya {ρ:Type} {x:Option Value} {d top v:Nat} (h:x=some (.int .i64 (v:Int))∨(x=none∧d=v)) (hv:v≤top) (K:Nat→Option ρ):bound x d top K=K v:=by
 rcases h with rfl | ⟨rfl,rfl⟩
 ·show (if 0≤(v:Int)∧(v:Int)≤(top:Int) then K (v:Int).toNat else none)=K v
  rw[if_pos (by omega),Int.toNat_natCast]
 ·rfl
theorem pR {E:TypeId} {s:Nat} {sl0:Ce} {n0:Nat} {row0:List Value} (h0:EM E s σ sl0 n0 row0) (lo hi:Nat) (hlh:lo≤hi) (hh:hi≤n0) (L H:Option Value) (hL:L=some (.int .i64 (lo:Int))∨(L=none∧0=lo)) (hH:H=some (.int .i64 (hi:Int))∨(H=none∧n0=hi)):
  ∃ src c,HK E s (sl0.1,n0,n0) L H none σ=some (src,hi-lo,c)∧Ds σ s src (hi-lo)=some ((row0.drop (lo*s)).take ((hi-lo)*s)):=by
 unfold HK
 simp only[Option.isSome_none,Bool.not_false,Bool.true_or,cond_true]
 rw[Ya (v:=n0) (.inr ⟨rfl,rfl⟩) (Nat.le_refl _),Ya hH hh,Ya hL hlh]
 rcases h0 with ⟨rfl,rfl,rfl⟩ | ⟨b,rfl,_,hl,hcell⟩
 ·have e1:hi=0:=by omega
  have e2:lo=0:=by omega
  subst e1; subst e2
  exact ⟨none,0,by simp,by simp[Ds]⟩
 ·have e1:elemAt σ b=some E:=by simp only[elemAt,hcell]
  have ld:∀ o n,o+n≤row0.length→ZA σ b o n=some ((row0.drop o).take n):=fun o n h=>by simp only[ZA,hcell]; rw[if_pos h]
  by_cases e:n0=lo
  ·have e2:hi-lo=0:=by omega
   refine ⟨some ⟨b,0,none⟩,0, ?_, ?_⟩
   ·rw[if_pos e,e2]
    simp only[cond_false,e1,if_true]
   ·rw[e2,Nat.zero_mul]
    simp only[Ds,Nat.zero_mul]
    rw[ld 0 0 (by omega)]; rfl
  ·refine ⟨some ⟨b,0+lo*s,none⟩,n0-lo, ?_, ?_⟩
   ·rw[if_neg e]
    simp only[Option.bind_some,e1,if_true]
   ·simp only[Ds,Nat.zero_add]
    refine ld _ _ ?_
    rw[hl,← Nat.add_mul]
    exact Nat.mul_le_mul_right _ (by omega)
theorem Ahh {b o:Nat} {cs:List Value} {T:TypeId} (h:σ[b]?=some (.cells cs T true)) (ho:o≤cs.length):XJ σ b o []=some σ:=by
 simp only[XJ,h,List.length_nil,Nat.add_zero,ho,if_true,AL,List.append_nil,List.take_append_drop]
 rw[dh h]
theorem uV {E:TypeId} {s by_:Nat} {z:Value} (hs:IW P E=some s) (hb:bytesOf P E=some by_) (hz:FT P E=some z) (hz1:Hb z=false) (hz2:z.cells.size=s) (hs0:0<s)
  (σ:Aa) (sl:Ce) (n:Nat) (row:List Value) (src:Option Addr) (c:Nat) (hsl:EM E s σ sl n row) (hx:Ds σ s src 0=some []):
  B9 P E sl (src,0,c) σ=some (sl,σ):=by
 unfold B9 Qf
 simp only[hs,hb,hz,Option.bind_some,hx]
 have h1:(¬ (Hb z=false∧some s=some z.cells.size∧0<z.cells.size))=False:=by
  rw[hz1,hz2]; simp[hs0]
 simp only[h1,if_false]
 rcases hsl with ⟨rfl,rfl,rfl⟩ | ⟨b,rfl,hp,hl,hcell⟩
 ·simp only[Nat.add_zero,Nat.le_refl,if_true,Is,cond_true,slK]
 ·simp only[Nat.add_zero,Nat.le_refl,if_true,Is,Option.isSome_none,cond_false,Option.bind_some,Nat.zero_add]
  rw[Ahh hcell (by omega)]
  simp only[Option.bind_some,slK]
theorem W8 {E:TypeId} {s by_:Nat} {z:Value} (hs:IW P E=some s) (hb:bytesOf P E=some by_) (hz:FT P E=some z) (hz1:Hb z=false) (hz2:z.cells.size=s) (hs0:0<s) (hb0:0<by_) (hb1:by_≤1000)
  (σ τ:Aa) (sl:Ce) (n:Nat) (row:List Value) (hsl:EM E s (σ++τ) sl n row) (hbh:∀ a,sl.1=some a→σ.length≤a.block) {sl0:Ce} {n0:Nat} {row0:List Value} (h0:EM E s (σ++τ) sl0 n0 row0) (lo hi:Nat) (hlh:lo≤hi) (hh:hi≤n0) (hn:n+n0≤1000000)
  (L H:Option Value) (hL:L=some (.int .i64 (lo:Int))∨(L=none∧0=lo)) (hH:H=some (.int .i64 (hi:Int))∨(H=none∧n0=hi)):
  ∃ src,HK E s (sl0.1,n0,n0) L H none (σ++τ)=some src ∧ ∃ s' τ',B9 P E sl (src.1,src.2.1,src.2.2) (σ++τ)=some (s',σ++τ')∧EM E s (σ++τ') s' (n+(hi-lo)) (row++(row0.drop (lo*s)).take ((hi-lo)*s))∧(∀ a,s'.1=some a→σ.length≤a.block):=by
 obtain ⟨src,c,e1,e2⟩:=pR h0 lo hi hlh hh L H hL hH
 refine ⟨_,e1, ?_⟩
 have hlen:((row0.drop (lo*s)).take ((hi-lo)*s)).length=(hi-lo)*s:=by
  have hr:row0.length=n0*s:=by
   rcases h0 with ⟨rfl,rfl,rfl⟩ | ⟨b,rfl,_,hl,_⟩
   ·simp
   ·exact hl
  rw[List.length_take,List.length_drop,hr,← Nat.sub_mul]
  exact Nat.min_eq_left (Nat.mul_le_mul_right _ (by omega))
 by_cases hz0:hi-lo=0
 ·rw[hz0,Nat.zero_mul,List.take_zero] at e2
  refine ⟨sl,τ, ?_, ?_,hbh⟩
  ·simp only[hz0]
   exact uV hs hb hz hz1 hz2 hs0 _ sl n row src c hsl e2
  ·rw[hz0,Nat.zero_mul,List.take_zero,List.append_nil]; exact hsl
 ·obtain ⟨s',σ',e,g,h⟩:=oh hs hb hz hz1 hz2 hs0 hb0 hb1 (σ++τ) sl n row src (hi-lo) c _ (by omega) (by omega) hlen hsl e2
  obtain ⟨⟨τ',rfl⟩,h2⟩:=g.behind hbh
  exact ⟨s',τ',e,h,h2⟩
theorem szO:IW P Ac=some 8:=by kernel_rfl
theorem byO:bytesOf P Ac=some 96:=by kernel_rfl
theorem zzO:FT P Ac=some (.agg #[.int .i64 0,.int .i64 0,.int .i64 0,.int .i64 0,.int .i64 0,.slice none 0 0,.slice none 0 0,.bool false]):=by kernel_rfl
theorem Yw:∀ (l l':List RO) (om om':List (Ce × Ce)),om.length=l.length→Eb (l++l') (om++om')=Eb l om++Eb l' om'
 | [],l',[],om',h=>rfl
 | [],l',p::om,om',h=>by simp at h
 | o::l,l',[],om',h=>by simp at h
 | o::l,l',p::om,om',h=>by
   simp only[List.cons_append,Eb,Yw l l' om om' (by simpa using h),List.append_assoc]
theorem WN (l:List RO) (om:List (Ce × Ce)) (h:om.length=l.length) (a:Nat) (ha:a≤l.length):(Eb l om).take (a*8)=Eb (l.take a) (om.take a)∧(Eb l om).drop (a*8)=Eb (l.drop a) (om.drop a):=by
 have e:Eb l om=Eb (l.take a) (om.take a)++Eb (l.drop a) (om.drop a):=by
  rw[← Yw _ _ _ _ (by simp; omega),List.take_append_drop,List.take_append_drop]
 have hl:(Eb (l.take a) (om.take a)).length=a*8:=by rw[UP _ _ (by simp; omega),List.length_take,Nat.min_eq_left ha]
 rw[e]
 constructor
 ·rw[← hl,List.take_left]
 ·rw[← hl,List.drop_left]
theorem ZE (a b:List (Ce × Ce)):YZ (a++b)=YZ a++YZ b:=by unfold YZ; rw[List.flatMap_append]
theorem jb (p:Ce × Ce) (b:List (Ce × Ce)):YZ (p::b)=(hs p.1++hs p.2)++YZ b:=rfl
theorem UR (om:List (Ce × Ce)) (x:Nat):YZ om=YZ (om.take x)++YZ (om.drop x):=by rw[← ZE,List.take_append_drop]
theorem rX {lo:Nat} {s:Ce} (h:∀ a,s.1=some a→lo≤a.block) {j:Nat} (hj:j ∈ hs s):lo≤j:=by
 obtain ⟨a,ha,rfl⟩:=Ch.1 hj
 exact h a ha
theorem Ag8 (k:Nat) (h:K5 σ i t) (hn:t.ob.length≤5000) {x:Nat} (hx:x<t.ob.length):∃ σ' os',Kk (k+1) (Cq i) (x:Int) σ=some (.tuple #[],σ')∧K5 σ' { i with os:=os',om:=i.om.eraseIdx x } { t with ob:=t.ob.eraseIdx x }∧Ib i { i with os:=os',om:=i.om.eraseIdx x } σ σ'∧(∀ a,os'.1=some a→σ.length≤a.block)∧(∀ j,j<σ.length→j≠i.hb→σ'[j]?=σ[j]?):=by
 have sep:=h.sep
 have hol:=h.ol
 have h0:EM Ac 8 (σ++[]) i.os t.ob.length (Eb t.ob i.om):=by rw[List.append_nil]; exact h.ob
 obtain ⟨src1,e1,s1,τ1,a1,sl1,b1⟩:=W8 szO byO zzO rfl rfl (by decide) (by decide) (by decide) σ [] (none,0,0) 0 [] (EM.nil _ _ _) (by intro a ha; cases ha) h0 0 x (by omega) (by omega) (by omega) none (some (.int .i64 (x:Int))) (.inr ⟨rfl,rfl⟩) (.inl rfl)
 rw[Nat.zero_mul,List.drop_zero,Nat.sub_zero,List.nil_append,Nat.zero_add,(WN t.ob i.om hol x (by omega)).1] at sl1
 rw[List.append_nil] at e1 a1
 have hg:=h.app τ1
 obtain ⟨src2,e2,s2,τ2,a2,sl2,b2⟩:=W8 szO byO zzO rfl rfl (by decide) (by decide) (by decide) σ τ1 s1 x _ sl1 b1 hg.ob (x+1) t.ob.length (by omega) (Nat.le_refl _) (by omega) (some (.int .i64 ((x+1:Nat):Int))) none (.inl rfl) (.inr ⟨rfl,rfl⟩)
 rw[(WN t.ob i.om hol (x+1) (by omega)).2,List.take_of_length_le (l:=Eb (t.ob.drop (x+1)) (i.om.drop (x+1))) (by rw[UP _ _ (by simp; omega),List.length_drop]; exact Nat.le_refl _),← Yw _ _ _ _ (by simp; omega)] at sl2
 rw[← List.eraseIdx_eq_take_drop_succ,← List.eraseIdx_eq_take_drop_succ,show x+(t.ob.length-(x+1))=(t.ob.eraseIdx x).length from by rw[List.length_eraseIdx_of_lt hx]; omega] at sl2
 have hg2:=h.app τ2
 have hsub:∀ j ∈ YZ (i.om.eraseIdx x),j ∈ YZ i.om:=by
  intro j hj
  rw[List.eraseIdx_eq_take_drop_succ,ZE] at hj
  rw[UR i.om x,List.drop_eq_getElem_cons (by omega),jb]
  rcases List.mem_append.1 hj with hj | hj
  ·exact List.mem_append.2 (.inl hj)
  ·exact List.mem_append.2 (.inr (List.mem_append.2 (.inr hj)))
 have hnd:(YZ (i.om.eraseIdx x)).Nodup:=by
  have:=sep.D
  rw[UR i.om x,List.drop_eq_getElem_cons (by omega),jb] at this
  rw[List.eraseIdx_eq_take_drop_succ,ZE]
  exact this.sublist (List.Sublist.append (List.Sublist.refl _) (List.sublist_append_right _ _))
 have hlt:=h.lt
 have hin:∀ {j},j ∈ i.l→j<σ.length:=fun hj=>hlt _ hj
 have hB:∀ j ∈ hs s2,σ.length≤j:=fun j hj=>rX b2 hj
 have mA:∀ j ∈ hs i.bs,j<σ.length:=fun j hj=>hin (RI.Lu.2 (.inr (.inl hj)))
 have mC:∀ j ∈ hs i.fs,j<σ.length:=fun j hj=>hin (RI.Lu.2 (.inr (.inr (.inr (.inl hj)))))
 have mD:∀ j ∈ YZ i.om,j<σ.length:=fun j hj=>hin (RI.Lu.2 (.inr (.inr (.inr (.inr hj)))))
 have mh:=hin i.Pg
 have sep':Sep { i with os:=s2,om:=i.om.eraseIdx x }:=
  { hA:=sep.hA,hB:=fun hh=>Nat.not_lt.2 (hB _ hh) mh,hC:=sep.hC,hD:=fun hh=>sep.hD (hsub _ hh),
    AB:=fun a ha hh=>by have:=hB _ hh; have:=mA _ ha; omega,AC:=sep.AC,AD:=fun a ha hh=>sep.AD a ha (hsub _ hh),
    BC:=fun a ha hh=>by have:=hB _ ha; have:=mC _ hh; omega,BD:=fun a ha hh=>by have:=hB _ ha; have:=mD _ (hsub _ hh); omega,CD:=fun a ha hh=>sep.CD a ha (hsub _ hh),D:=hnd }
 have hlt2:∀ j ∈ RI.l { i with os:=s2,om:=i.om.eraseIdx x },j<(σ++τ2).length:=by
  intro j hj
  rcases RI.Lu.1 hj with hj | hj | hj | hj | hj
  ·have hj':j=i.hb:=hj
   rw[hj',List.length_append]; omega
  ·have:=mA _ hj; simp; omega
  ·obtain ⟨a,ha,rfl⟩:=Ch.1 hj; exact sl2.lt a ha
  ·have:=mC _ hj; simp; omega
  ·have:=mD _ (hsub _ hj); simp; omega
 have hinn:∀ (y:Nat) (h1:y<(t.ob.eraseIdx x).length) (h2:y<(i.om.eraseIdx x).length),Fg (σ++τ2) (i.om.eraseIdx x)[y].1 (t.ob.eraseIdx x)[y].refs∧Fg (σ++τ2) (i.om.eraseIdx x)[y].2 (t.ob.eraseIdx x)[y].data:=by
  intro y h1 h2
  rw[List.getElem_eraseIdx,List.getElem_eraseIdx]
  split
  ·exact hg2.inn y (by omega) (by omega)
  ·have hl:=List.length_eraseIdx_of_lt hx
   exact hg2.inn (y+1) (by omega) (by omega)
 have hR:=K5.vD (i:={ i with os:=s2,om:=i.om.eraseIdx x }) (t:={ t with ob:=t.ob.eraseIdx x }) hg2.bl sl2 hg2.fw (by show (i.om.eraseIdx x).length=(t.ob.eraseIdx x).length; rw[List.length_eraseIdx_of_lt hx,List.length_eraseIdx_of_lt (by omega),hol]) hinn sep' hlt2
 refine ⟨_,s2, ?_,hR,⟨by simp,fun j hj hn=>?_,fun j hj=>?_,rfl⟩,b2,fun j hj hne=>?_⟩
 ·rw[et,RR]
  try simp only[sw,Ad,Af,Ae]
  have w:Cf ((x:Int)+1)=((x+1:Nat):Int):=Ak (by unfold AU; omega)
  have est:AX.K3 (σ++τ2) i.hb 1 (.slice s2.1 s2.2.1 s2.2.2)=some ((σ++τ2).set i.hb (.cells [.slice i.bs.1 i.bs.2.1 i.bs.2.2,.slice s2.1 s2.2.1 s2.2.2,.slice i.fs.1 i.fs.2.1 i.fs.2.2,.int .i64 t.born] Dk true)):=by
   simp[AX.K3,hg2.hp]
  simp only[Option.bind_some,Nat.zero_add,h.GJ,e1,a1,hg.GJ,w,e2,a2,est]
 ·have:i.hb≠j:=fun e=>hn (by rw[← e]; exact i.Pg)
  rw[List.getElem?_set_ne this,List.getElem?_append_left hj]
 ·rcases RI.Lu.1 hj with hj | hj | hj | hj | hj
  ·exact .inl (by rw[hj]; exact i.Pg)
  ·exact .inl (RI.Lu.2 (.inr (.inl hj)))
  ·exact .inr (hB _ hj)
  ·exact .inl (RI.Lu.2 (.inr (.inr (.inr (.inl hj)))))
  ·exact .inl (RI.Lu.2 (.inr (.inr (.inr (.inr (hsub _ hj))))))
 ·rw[List.getElem?_set_ne (Ne.symm hne),List.getElem?_append_left hj]
theorem pC (k:Nat) (h:K5 σ i t) (hn:t.ob.length≤5000) {q:Nat} {a:Int} (hq:Dg .i64 σ q 0=some a):∀ (n x f:Nat),x+n=t.ob.length→n<f→EP k f (Cq i) q (x:Int) σ=some (.exit 0,[.int .i64 ((x+ZG (t.ob.drop x) a:Nat):Int)],σ)
 | 0,x,0,hx,hf=>by omega
 | 0,x,f+1,hx,hf=>by
   rw[Q6,JQ]
   try simp only[sw,Ad,Af,Ae]
   rw[List.drop_eq_nil_of_le (by omega)]
   simp only[Option.bind_some,Nat.zero_add,h.GJ,decide_eq_false (show ¬ (x:Int)<((t.ob.length:Nat):Int) by omega),cond_false,ZG,Nat.add_zero]
 | n+1,x,0,hx,hf=>by omega
 | n+1,x,f+1,hx,hf=>by
   have hxl:x<t.ob.length:=by omega
   obtain ⟨b,e,hc,L⟩:=h.obj hxl
   have L:=L (by rw[h.ol]; exact hxl)
   have qx:(0≤(x:Int)∧(x:Int)<((t.ob.length:Nat):Int))=True:=eq_true (by omega)
   have w1:Cf ((x:Int)+1)=((x+1:Nat):Int):=Ak (by unfold AU; omega)
   rw[Q6,JQ]
   try simp only[sw,Ad,Af,Ae]
   rw[List.drop_eq_getElem_cons hxl,ZG]
   simp only[Option.bind_some,Nat.zero_add,Nat.add_zero,h.GJ,decide_eq_true (show (x:Int)<((t.ob.length:Nat):Int) by omega),cond_true,qx,if_true,e,Int.toNat_natCast,L.l0,hq]
   by_cases g:t.ob[x].addr<a
   ·rw[decide_eq_true g,if_pos g]
    simp only[cond_true,w1]
    rw[pC k h hn hq n (x+1) f (by omega) (by omega),show x+1+ZG (t.ob.drop (x+1)) a=x+(ZG (t.ob.drop (x+1)) a+1) from by omega]
   ·rw[decide_eq_false g,if_neg g]
    simp only[cond_false,Nat.add_zero]
theorem lN {α:Type} (l:List α) (n:Nat) (hn:n≤l.length) (a:α) (y:Nat) (hy:y<(l.take n++a::l.drop n).length):(l.take n++a::l.drop n)[y]=if h:y<n then l[y] else if h2:y=n then a else l[y-1]'(by simp at hy; omega):=by
 have hl:(l.take n).length=n:=by rw[List.length_take]; omega
 split
 ·rename_i h
  rw[List.getElem_append_left (by omega),List.getElem_take]
 ·split
  ·rename_i h h2
   subst h2
   rw[List.getElem_append_right (by omega)]
   simp only[hl,Nat.sub_self,List.getElem_cons_zero]
  ·rename_i h h2
   obtain ⟨d,rfl⟩:∃ d,y=n+1+d:=⟨y-n-1,by omega⟩
   rw[List.getElem_append_right (by omega)]
   simp only[hl,show n+1+d-n=d+1 from by omega,List.getElem_cons_succ,List.getElem_drop]
   congr 1
   omega
theorem Ahb (k:Nat) (hk:5000≤k) (h:K5 σ i t) (hn:t.ob.length≤4900) (o:RO) (p:Ce × Ce) (hp1:Fg σ p.1 o.refs) (hp2:Fg σ p.2 o.data) (hpl:∀ j,j ∈ hs p.1∨j ∈ hs p.2→j<σ.length∧j ∉ i.l) (hpn:(hs p.1++hs p.2).Nodup):
  ∃ σ' os',HW (k+1) (Cq i) o.addr o.id o.r o.d o.k p.1 p.2 o.lU σ=some (.tuple #[],σ')∧K5 σ' { i with os:=os',om:=i.om.take (ZG t.ob o.addr)++p::i.om.drop (ZG t.ob o.addr) } { t with ob:=cO t.ob o } ∧
   (∀ j,j<σ.length→j≠i.hb→σ'[j]?=σ[j]?)∧σ.length≤σ'.length∧(∀ a,os'.1=some a→σ.length≤a.block)∧(∀ j,j ∈ RI.l { i with os:=os',om:=i.om.take (ZG t.ob o.addr)++p::i.om.drop (ZG t.ob o.addr) }→j ∈ i.l∨j ∈ hs p.1∨j ∈ hs p.2∨σ.length≤j):=by
 have sep:=h.sep
 have hol:=h.ol
 obtain ⟨n,hN⟩:∃ n,ZG t.ob o.addr=n:=⟨_,rfl⟩
 have hnl:n≤t.ob.length:=by rw[← hN]; exact zq _ _
 obtain ⟨B,hB⟩:∃ B,A6.cells (Bf o p) Ac true=B:=⟨_,rfl⟩
 have hb:=h.app [B]
 have lq:∀ (τ:Aa) (x:Nat),Dg .i64 (σ++([B]++τ)) σ.length x=((Bf o p)[x]?).bind (Ml .i64):=fun τ x=>by rw[← hB]; simp[Dg,Gi]
 have lqs:∀ (τ:Aa) (x:Nat),Hx (σ++([B]++τ)) σ.length x=((Bf o p)[x]?).bind H7:=fun τ x=>by rw[← hB]; simp[Hx,Gi]
 have lqb:∀ (τ:Aa) (x:Nat),lO (σ++([B]++τ)) σ.length x=((Bf o p)[x]?).bind Ez:=fun τ x=>by rw[← hB]; simp[lO,Gi]
 have e0:=pC k hb (by show t.ob.length≤5000; omega) (q:=σ.length) (a:=o.addr) (by have:=lq [] 0; rw[List.append_nil] at this; rw[this]; rfl) t.ob.length 0 k (by omega) (by omega)
 rw[List.drop_zero,Nat.zero_add,hN] at e0
 have e0':EP k k (Cq i) σ.length 0 (σ++[B])=_:=e0
 obtain ⟨src1,e1,s1,τ1,a1,sl1,b1⟩:=W8 szO byO zzO rfl rfl (by decide) (by decide) (by decide) (σ++[B]) [] (none,0,0) 0 [] (EM.nil _ _ _) (by intro a ha; cases ha) (by rw[List.append_nil]; exact hb.ob) 0 n (by omega) hnl (by omega) none (some (.int .i64 (n:Int))) (.inr ⟨rfl,rfl⟩) (.inl rfl)
 rw[Nat.zero_mul,List.drop_zero,Nat.sub_zero,List.nil_append,Nat.zero_add,(WN t.ob i.om hol n hnl).1] at sl1
 rw[List.append_nil] at e1 a1
 obtain ⟨s2,τ2,a2,sl2,b2⟩:=WR szO byO zzO rfl rfl (by decide) (by decide) (by decide) (σ++[B]) τ1 s1 n _ 1 1 (Bf o p) Ac (by omega) (by decide) rfl sl1 b1
 have a2':B9 P Ac (s1.1,s1.2.1,s1.2.2) (some ⟨(σ++[B]++τ1).length,0,none⟩,1,1) (σ++[B]++τ1++[A6.cells [.int .i64 o.addr,.int .i64 o.id,.int .i64 o.r,.int .i64 o.d,.int .i64 o.k,.slice p.1.1 p.1.2.1 p.1.2.2,.slice p.2.1 p.2.2.1 p.2.2.2,.bool o.lU] Ac true])=some (s2,σ++[B]++τ2):=a2
 have hg2:=hb.app τ2
 obtain ⟨src3,e3,s3,τ3,a3,sl3,b3⟩:=W8 szO byO zzO rfl rfl (by decide) (by decide) (by decide) (σ++[B]) τ2 s2 (n+1) _ sl2 b2 hg2.ob n t.ob.length hnl (Nat.le_refl _) (by omega) (some (.int .i64 (n:Int))) none (.inl rfl) (.inr ⟨rfl,rfl⟩)
 rw[(WN t.ob i.om hol n hnl).2,List.take_of_length_le (l:=Eb (t.ob.drop n) (i.om.drop n)) (by rw[UP _ _ (by simp; omega),List.length_drop]; exact Nat.le_refl _),List.append_assoc (Eb (t.ob.take n) (i.om.take n)) (Bf o p),show Bf o p++Eb (t.ob.drop n) (i.om.drop n)=Eb (o::t.ob.drop n) (p::i.om.drop n) from rfl,← Yw _ _ _ _ (by simp; omega)] at sl3
 have hins:cO t.ob o=t.ob.take n++o::t.ob.drop n:=by unfold cO; rw[hN]
 have hlen:(cO t.ob o).length=n+1+(t.ob.length-n):=by rw[hins]; simp; omega
 rw[← hins,← hlen,List.append_assoc] at sl3
 have hg3:=h.app ([B]++τ3)
 have hlt:=h.lt
 have hin:∀ {j},j ∈ i.l→j<σ.length:=fun hj=>hlt _ hj
 have hB3:∀ j ∈ hs s3,σ.length≤j:=fun j hj=>by have:=rX b3 hj; simp at this; omega
 have mA:∀ j ∈ hs i.bs,j<σ.length:=fun j hj=>hin (RI.Lu.2 (.inr (.inl hj)))
 have mC:∀ j ∈ hs i.fs,j<σ.length:=fun j hj=>hin (RI.Lu.2 (.inr (.inr (.inr (.inl hj)))))
 have mD:∀ j ∈ YZ i.om,j<σ.length:=fun j hj=>hin (RI.Lu.2 (.inr (.inr (.inr (.inr hj)))))
 have mh:=hin i.Pg
 have mem_om:∀ j,j ∈ YZ (i.om.take n++p::i.om.drop n)↔j ∈ YZ i.om∨j ∈ hs p.1∨j ∈ hs p.2:=by
  intro j
  rw[ZE,jb,UR i.om n]
  simp only[List.mem_append]
  constructor
  ·rintro (h | (h | h) | h)
   ·exact .inl (.inl h)
   ·exact .inr (.inl h)
   ·exact .inr (.inr h)
   ·exact .inl (.inr h)
  ·rintro ((h | h) | h | h)
   ·exact .inl h
   ·exact .inr (.inr h)
   ·exact .inr (.inl (.inl h))
   ·exact .inr (.inl (.inr h))
 have hnd:(YZ (i.om.take n++p::i.om.drop n)).Nodup:=by
  have hD:=sep.D
  rw[UR i.om n] at hD
  obtain ⟨d1,d2,d3⟩:=List.nodup_append.1 hD
  have out:∀ j,j ∈ hs p.1++hs p.2→j ∉ YZ i.om:=fun j hj hm=>(hpl j (List.mem_append.1 hj)).2 (RI.Lu.2 (.inr (.inr (.inr (.inr hm)))))
  rw[ZE,jb]
  refine List.nodup_append.2 ⟨d1,List.nodup_append.2 ⟨hpn,d2, ?_⟩, ?_⟩
  ·intro a ha b hb' e
   subst e
   exact out a ha (by rw[UR i.om n]; exact List.mem_append.2 (.inr hb'))
  ·intro a ha b hb' e
   subst e
   rcases List.mem_append.1 hb' with hb' | hb'
   ·exact out a hb' (by rw[UR i.om n]; exact List.mem_append.2 (.inl ha))
   ·exact d3 a ha a hb' rfl
 have pout:∀ {j},j ∈ YZ (i.om.take n++p::i.om.drop n)→j<σ.length:=fun hj=>by
  rcases (mem_om _).1 hj with hj | hj
  ·exact mD _ hj
  ·exact (hpl _ hj).1
 have pne:∀ {j},j ∈ i.hb::(hs i.bs++hs i.fs)→j ∉ YZ (i.om.take n++p::i.om.drop n):=fun {j} hj hm=>by
  rcases (mem_om _).1 hm with hm | hm
  ·rcases List.mem_cons.1 hj with e | hj
   ·exact sep.hD (e ▸ hm)
   ·rcases List.mem_append.1 hj with hj | hj
    ·exact sep.AD _ hj hm
    ·exact sep.CD _ hj hm
  ·refine (hpl _ hm).2 ?_
   rcases List.mem_cons.1 hj with e | hj
   ·rw[e]; exact i.Pg
   ·rcases List.mem_append.1 hj with hj | hj
    ·exact RI.Lu.2 (.inr (.inl hj))
    ·exact RI.Lu.2 (.inr (.inr (.inr (.inl hj))))
 rw[hN]
 have sep':Sep { i with os:=s3,om:=i.om.take n++p::i.om.drop n }:=
  { hA:=sep.hA,hB:=fun hh=>Nat.not_lt.2 (hB3 _ hh) mh,hC:=sep.hC,hD:=fun hh=>pne (List.mem_cons_self) hh,
    AB:=fun a ha hh=>by have:=hB3 _ hh; have:=mA _ ha; omega,AC:=sep.AC,AD:=fun a ha hh=>pne (List.mem_cons_of_mem _ (List.mem_append.2 (.inl ha))) hh,
    BC:=fun a ha hh=>by have:=hB3 _ ha; have:=mC _ hh; omega,BD:=fun a ha hh=>by have:=hB3 _ ha; have:=pout hh; omega,CD:=fun a ha hh=>pne (List.mem_cons_of_mem _ (List.mem_append.2 (.inr ha))) hh,D:=hnd }
 have hlt2:∀ j ∈ RI.l { i with os:=s3,om:=i.om.take n++p::i.om.drop n },j<(σ++([B]++τ3)).length:=by
  intro j hj
  rcases RI.Lu.1 hj with hj | hj | hj | hj | hj
  ·have hj':j=i.hb:=hj
   rw[hj',List.length_append]; omega
  ·have:=mA _ hj; simp; omega
  ·obtain ⟨a,ha,rfl⟩:=Ch.1 hj; exact sl3.lt a ha
  ·have:=mC _ hj; simp; omega
  ·have:=pout hj; simp; omega
 have hinn:∀ (y:Nat) (h1:y<(cO t.ob o).length) (h2:y<(i.om.take n++p::i.om.drop n).length),Fg (σ++([B]++τ3)) (i.om.take n++p::i.om.drop n)[y].1 (cO t.ob o)[y].refs∧Fg (σ++([B]++τ3)) (i.om.take n++p::i.om.drop n)[y].2 (cO t.ob o)[y].data:=by
  intro y h1 h2
  simp only[hins] at h1 ⊢
  rw[lN t.ob n hnl o y h1,lN i.om n (by omega) p y h2]
  have hl1:(t.ob.take n++o::t.ob.drop n).length=t.ob.length+1:=by simp; omega
  by_cases c1:y<n
  ·simp only[c1,dite_true]
   exact hg3.inn y (by omega) (by omega)
  ·by_cases c2:y=n
   ·simp only[c1,c2,dite_false,dite_true,Nat.lt_irrefl]
    exact ⟨hp1.app _,hp2.app _⟩
   ·simp only[c1,c2,dite_false]
    exact hg3.inn (y-1) (by omega) (by omega)
 have hR:=K5.vD (i:={ i with os:=s3,om:=i.om.take n++p::i.om.drop n }) (t:={ t with ob:=cO t.ob o }) hg3.bl sl3 hg3.fw (by show (i.om.take n++p::i.om.drop n).length=(cO t.ob o).length; rw[hlen]; simp; omega) hinn sep' hlt2
 refine ⟨_,s3, ?_,hR,fun j hj hne=>?_,by simp,fun a ha=>by have:=b3 a ha; simp at this; omega,fun j hj=>?_⟩
 ·rw[ey,RT]
  try simp only[sw,Ad,Af,Ae]
  have est:AX.K3 (σ++([B]++τ3)) i.hb 1 (.slice s3.1 s3.2.1 s3.2.2)=some ((σ++([B]++τ3)).set i.hb (.cells [.slice i.bs.1 i.bs.2.1 i.bs.2.2,.slice s3.1 s3.2.1 s3.2.2,.slice i.fs.1 i.fs.2.1 i.fs.2.2,.int .i64 t.born] Dk true)):=by
   have hh:=hg3.hp
   generalize σ++([B]++τ3)=μ at hh ⊢
   simp[AX.K3,hh]
  have c0:∀ τ,Dg .i64 (σ++[B]++τ) σ.length 0=some o.addr:=fun τ=>by rw[List.append_assoc,lq]; rfl
  have c1:∀ τ,Dg .i64 (σ++[B]++τ) σ.length 1=some o.id:=fun τ=>by rw[List.append_assoc,lq]; rfl
  have c2:∀ τ,Dg .i64 (σ++[B]++τ) σ.length 2=some o.r:=fun τ=>by rw[List.append_assoc,lq]; rfl
  have c3:∀ τ,Dg .i64 (σ++[B]++τ) σ.length 3=some o.d:=fun τ=>by rw[List.append_assoc,lq]; rfl
  have c4:∀ τ,Dg .i64 (σ++[B]++τ) σ.length 4=some o.k:=fun τ=>by rw[List.append_assoc,lq]; rfl
  have c5:∀ τ,Hx (σ++[B]++τ) σ.length 5=some (p.1.1,p.1.2.1,p.1.2.2):=fun τ=>by rw[List.append_assoc,lqs]; rfl
  have c6:∀ τ,Hx (σ++[B]++τ) σ.length 6=some (p.2.1,p.2.2.1,p.2.2.2):=fun τ=>by rw[List.append_assoc,lqs]; rfl
  have c7:∀ τ,lO (σ++[B]++τ) σ.length 7=some o.lU:=fun τ=>by rw[List.append_assoc,lqb]; rfl
  have hBox:A6.cells [.int .i64 o.addr,.int .i64 o.id,.int .i64 o.r,.int .i64 o.d,.int .i64 o.k,.slice p.1.1 p.1.2.1 p.1.2.2,.slice p.2.1 p.2.2.1 p.2.2.2,.bool o.lU] Ac true=B:=hB
  rw[← List.append_assoc] at est
  simp only[AM,hBox,e0',Option.bind_some,if_true,FR,Nat.zero_add,Nat.add_assoc,Nat.reduceAdd,hb.GJ,e1,a1,c0,c1,c2,c3,c4,c5,c6,c7]
  rw[← hBox] at a2' ⊢
  simp only[a2',Option.bind_some]
  rw[hBox]
  simp only[hg2.GJ,e3,a3,Option.bind_some,est]
  simp only[List.append_assoc]
 ·rw[List.getElem?_set_ne (Ne.symm hne),List.getElem?_append_left hj]
 ·rcases RI.Lu.1 hj with hj | hj | hj | hj | hj
  ·exact .inl (by rw[hj]; exact i.Pg)
  ·exact .inl (RI.Lu.2 (.inr (.inl hj)))
  ·exact .inr (.inr (.inr (hB3 _ hj)))
  ·exact .inl (RI.Lu.2 (.inr (.inr (.inr (.inl hj)))))
  ·rcases (mem_om _).1 hj with hj | hj | hj
   ·exact .inl (RI.Lu.2 (.inr (.inr (.inr (.inr hj)))))
   ·exact .inr (.inl hj)
   ·exact .inr (.inr (.inl hj))
end Go.Proofs.YtjbledomkmdkmaaGreat
end
section
namespace Go.Proofs.YtjbledomkmdkmaaGreat
open Go Go.AX
noncomputable local instance qRZ:A9:=Aw
local instance nRZ:Kn:=⟨true⟩
variable {σ:Aa} {m:HM} {t:RM} {i:RI}
theorem Aeu (k:Nat) (hk:5000≤k) (h:RG σ i m t) (hP:OI m) (hS:Sh m) (a:Int):Fx (FJ (k+4) (Cq i) a σ) σ i (.int .i64 (Kv m a).1) (Kv m a).2:=by
 have hol:=h.ol
 rw[bY,Qn]
 try simp only[sw,Ad,Af,Ae]
 have hix:=Y1 (k+1) (by omega) h a
 simp only[jn k hk h a,Option.bind_some,Aj]
 unfold Kv
 cases hh:Ea m a with
 | false=>
   simp only[Bool.false_eq_true,if_false,ne4,cond_true]
   exact Fx.Tw h hP rfl
 | true=>
   obtain ⟨x,j,b,p,F⟩:=h.found hh
   obtain ⟨σ',os',e,h',k',_,_⟩:=Ag8 (k+2) h.at_ (by omega) F.xl
   have ea:a.toNat/2=j:=by rw[F.e,Int.toNat_natCast]; omega
   obtain ⟨s1,s2⟩:=h.sim.kill h.inv hS hP F.st F.all
   rw[ea]
   simp only[if_true,bne_self_eq_false,cond_false,hix,Option.bind_some,Aj,F.idx,e,M8]
   exact ⟨σ',_,_,rfl,h',s1,s2,k'⟩
theorem vG {om:List (Ce × Ce)} (h:(YZ om).Nodup) {y z:Nat} (hy:y<om.length) (hz:z<om.length) {j:Nat} (hj:j ∈ hs om[y].1∨j ∈ hs om[y].2) (hk:j ∈ hs om[z].1∨j ∈ hs om[z].2):y=z:=by
 obtain ⟨_,h2⟩:=List.pairwise_flatMap.1 h
 have h3:=List.pairwise_iff_getElem.1 h2
 rcases Nat.lt_trichotomy y z with hlt | he | hlt
 ·exact absurd rfl (h3 y z hy hz hlt j (List.mem_append.2 hj) j (List.mem_append.2 hk))
 ·exact he
 ·exact absurd rfl (h3 z y hz hy hlt j (List.mem_append.2 hk) j (List.mem_append.2 hj))
theorem zo {om:List (Ce × Ce)} (h:(YZ om).Nodup) {y:Nat} (hy:y<om.length) {j:Nat} (hj:j ∈ hs om[y].1):j ∉ hs om[y].2:=by
 obtain ⟨h1,_⟩:=List.pairwise_flatMap.1 h
 obtain ⟨_,_,h3⟩:=List.nodup_append.1 (h1 _ (List.getElem_mem hy))
 exact fun hk=>h3 j hj j hk rfl
theorem pe:∀ (l:List RO) (om:List (Ce × Ce)) (y:Nat) (hy:y<l.length) (hy':y<om.length) (o:RO),Bf o om[y]=Bf l[y] om[y]→Eb (l.set y o) om=Eb l om
 | [],om,y,hy,_,_,_=>by simp at hy
 | a::l,[],y,_,hy',_,_=>by simp at hy'
 | a::l,p::om,0,hy,hy',o,h=>by
   simp only[List.set_cons_zero,Eb]
   rw[show Bf o p=Bf a p from h]
 | a::l,p::om,y+1,hy,hy',o,h=>by
   simp only[List.set_cons_succ,Eb]
   rw[pe l om y (by simpa using hy) (by simpa using hy') o h]
theorem K5.Aic (h:K5 σ i t) {y b:Nat} (hy:y<t.ob.length) (hy':y<i.om.length) (hb:b ∈ hs i.om[y].1∨b ∈ hs i.om[y].2) (c:A6) (o:RO) (hro:Bf o i.om[y]=Bf t.ob[y] i.om[y]) (hin:Fg (σ.set b c) i.om[y].1 o.refs∧Fg (σ.set b c) i.om[y].2 o.data):
  K5 (σ.set b c) i { t with ob:=t.ob.set y o }:=by
 have sep:=h.sep
 have hm:b ∈ YZ i.om:=Kw hy' hb
 refine { hp:=?_,bl:=?_,ob:=?_,fw:=?_,ol:=by show _=(t.ob.set y o).length; rw[List.length_set]; exact h.ol,inn:=?_,nd:=h.nd,lt:=fun j hj=>by rw[List.length_set]; exact h.lt j hj }
 ·rw[List.getElem?_set_ne (fun e:b=i.hb=>sep.hD (by rw[← e]; exact hm))]; exact h.hp
 ·exact h.bl.AG fun a ha=>List.getElem?_set_ne fun e:b=a.block=>sep.AD a.block (Ch.2 ⟨a,ha,rfl⟩) (by rw[← e]; exact hm)
 ·show EM _ 8 _ _ (t.ob.set y o).length (Eb (t.ob.set y o) i.om)
  rw[List.length_set,pe _ _ _ hy hy' _ hro]
  exact h.ob.AG fun a ha=>List.getElem?_set_ne fun e:b=a.block=>sep.BD a.block (Ch.2 ⟨a,ha,rfl⟩) (by rw[← e]; exact hm)
 ·exact h.fw.AG fun a ha=>List.getElem?_set_ne fun e:b=a.block=>sep.CD a.block (Ch.2 ⟨a,ha,rfl⟩) (by rw[← e]; exact hm)
 ·intro z h1 h2
  have h1':z<t.ob.length:=by simpa using h1
  show Fg _ i.om[z].1 (t.ob.set y o)[z].refs∧Fg _ i.om[z].2 (t.ob.set y o)[z].data
  by_cases e:y=z
  ·subst e
   rw[List.getElem_set_self]
   exact hin
  ·rw[List.getElem_set_ne e]
   exact ⟨(h.inn z h1' h2).1.AG fun d hd=>List.getElem?_set_ne fun e':b=d=>e (vG sep.D hy' h2 hb (.inl (by rw[e']; exact hd))),(h.inn z h1' h2).2.AG fun d hd=>List.getElem?_set_ne fun e':b=d=>e (vG sep.D hy' h2 hb (.inr (by rw[e']; exact hd)))⟩
theorem Ajl (h:RG σ i m t) (hP:OI m) {a:Int} {x j b:Nat} {p:Ce × Ce} (F:Found σ i m t a x j b p) (q:Nat) (hq:2+q<use m j) (v:Int):
  ∃ b2 σ' t',(if (q:Int)<A5 m j then p.1.1=some ⟨b2,0,none⟩∧AX.K3 σ b2 q (.int .i64 v)=some σ' else p.2.1=some ⟨b2,0,none⟩∧AX.K3 σ b2 (q-(A5 m j).toNat) (.int .i64 v)=some σ')∧K5 σ' i t'∧Zd (MH m (2*j+2+q) v) t'∧OI (MH m (2*j+2+q) v)∧Ib i i σ σ':=by
 have hu:=h.inv.use F.st
 obtain ⟨s1,s2⟩:=h.sim.word h.inv hP F.st F.all hq v
 obtain ⟨_,r1,r2,r3,r4,_⟩:=YY h.inv F.st
 have hx':x<i.om.length:=by rw[h.at_.ol]; exact F.xl
 have ep:i.om[x]=p:=by have:=F.om; rw[List.getElem?_eq_getElem hx'] at this; exact Option.some.inj this
 have eo:t.ob[x]'F.xl=Cs m j:=by have:=F.ob; rw[List.getElem?_eq_getElem F.xl] at this; exact Option.some.inj this
 have sep:=h.at_.sep
 have lr:(Cs m j).refs.length=(A5 m j).toNat:=HR _ _ _
 have ld:(Cs m j).data.length=(BN m j).toNat:=HR _ _ _
 by_cases c:(q:Int)<A5 m j
 ·rw[if_pos c] at s1
  obtain ⟨b2,e2,l2,c2⟩:=F.rs.ldx (x:=q) (by omega)
  have hb2:b2 ∈ hs p.1:=UE e2
  have st:=yn c2 (x:=q) (by omega) v
  refine ⟨b2,_,_,by rw[if_pos c]; exact ⟨e2,st⟩,h.at_.Aic F.xl hx' (.inl (by rw[ep]; exact hb2)) _ _ (by rw[eo]; rfl) ?_,s1,s2,Ib.set _ _ (i.Kw hx' (.inl (by rw[ep]; exact hb2)))⟩
  rw[ep]
  refine ⟨⟨by show _=((Cs m j).refs.set q v).length; rw[List.length_set]; exact F.rs.1,fun _=>?_,fun a ha=>by rw[e2] at ha; cases ha; exact ⟨_,_,_,List.getElem?_set_self (Al c2),Nat.zero_le _⟩⟩,F.ds.AG fun d hd=>List.getElem?_set_ne fun e:b2=d=>zo sep.D hx' (j:=b2) (by rw[ep]; exact hb2) (by rw[ep,e]; exact hd)⟩
  obtain ⟨b3,c3,e3,c4⟩:=F.rs.2.1 (fun hn=>by rw[hn] at lr; simp at lr; omega)
  rw[e3] at e2
  cases e2
  exact ⟨b2,c3,by rw[e3]; show _=(some _,((Cs m j).refs.set q v).length,c3); rw[List.length_set],List.getElem?_set_self (Al c2)⟩
 ·rw[if_neg c] at s1
  obtain ⟨b2,e2,l2,c2⟩:=F.ds.ldx (x:=q-(A5 m j).toNat) (by omega)
  have hb2:b2 ∈ hs p.2:=UE e2
  have st:=yn c2 (x:=q-(A5 m j).toNat) (by omega) v
  refine ⟨b2,_,_,by rw[if_neg c]; exact ⟨e2,st⟩,h.at_.Aic F.xl hx' (.inr (by rw[ep]; exact hb2)) _ _ (by rw[eo]; rfl) ?_,s1,s2,Ib.set _ _ (i.Kw hx' (.inr (by rw[ep]; exact hb2)))⟩
  rw[ep]
  refine ⟨F.rs.AG fun d hd=>List.getElem?_set_ne fun e:b2=d=>zo sep.D hx' (j:=b2) (by rw[ep,e]; exact hd) (by rw[ep]; exact hb2),⟨by show _=((Cs m j).data.set _ v).length; rw[List.length_set]; exact F.ds.1,fun _=>?_,fun a ha=>by rw[e2] at ha; cases ha; exact ⟨_,_,_,List.getElem?_set_self (Al c2),Nat.zero_le _⟩⟩⟩
  obtain ⟨b3,c3,e3,c4⟩:=F.ds.2.1 (fun hn=>by rw[hn] at ld; simp at ld; omega)
  rw[e3] at e2
  cases e2
  exact ⟨b2,c3,by rw[e3]; show _=(some _,((Cs m j).data.set _ v).length,c3); rw[List.length_set],List.getElem?_set_self (Al c2)⟩
theorem yc (k:Nat) (hk:5000≤k) (h:RG σ i m t) (hP:OI m) (a x v:Int):Fx (Gb (k+4) (Cq i) a x v σ) σ i (.int .i64 (EK m a x v).1) (EK m a x v).2:=by
 have hol:=h.ol
 rw[Z0,N5]
 try simp only[sw,Ad,Af,Ae]
 have hix:=Y1 (k+1) (by omega) h a
 simp only[jn k hk h a,Option.bind_some,Aj]
 unfold EK DG
 cases hh:Ea m a with
 | false=>
   simp only[Bool.false_eq_true,if_false,ne4,cond_true,show ((4:Int)=0)=False from by decide]
   exact Fx.Tw h hP rfl
 | true=>
   obtain ⟨y,j,b,p,F⟩:=h.found hh
   have hu:=h.inv.use F.st
   obtain ⟨_,r1,r2,r3,r4,_⟩:=YY h.inv F.st
   have hy:=F.xl
   have rl:p.1.2.1=(A5 m j).toNat:=by rw[F.rs.1]; exact HR _ _ _
   have ea:a.toNat/2=j:=by rw[F.e,Int.toNat_natCast]; omega
   have qy:(0≤(y:Int)∧(y:Int)<((t.ob.length:Nat):Int))=True:=eq_true (by omega)
   simp only[if_true,bne_self_eq_false,cond_false,hix,Option.bind_some,Aj,F.idx,ea,Bool.false_eq_true,if_false]
   by_cases g0:x<0
   ·rw[if_neg (show ¬ (0≤x∧x<A5 m j) by omega)]
    simp only[decide_eq_true g0,cond_true,Option.bind_some,show ((1:Int)=0)=False from by decide,if_false]
    exact Fx.Tw h hP rfl
   simp only[decide_eq_false g0,cond_false,Nat.zero_add,h.at_.GJ,qy,if_true,F.os,Option.bind_some,Int.toNat_natCast,F.ld.l5,rl]
   by_cases g1:x<A5 m j
   rotate_left
   ·rw[if_neg (show ¬ (0≤x∧x<A5 m j) by omega)]
    simp only[decide_eq_true (show x≥(((A5 m j).toNat:Nat):Int) by omega),cond_true,Option.bind_some,show ((1:Int)=0)=False from by decide,if_false]
    exact Fx.Tw h hP rfl
   rw[if_pos (show 0≤x∧x<A5 m j from ⟨by omega,g1⟩)]
   obtain ⟨n,rfl⟩:∃ n:Nat,x=(n:Int):=⟨x.toNat,by omega⟩
   simp only[decide_eq_false (show ¬ (n:Int)≥(((A5 m j).toNat:Nat):Int) by omega),cond_false,if_true]
   have eh:HV (k+3) (Cq i) v σ=_:=Ag5 k hk h v
   have fin:Fx ((Hx σ i.hb 1).bind fun l15=>if 0≤(y:Int)∧(y:Int)<(l15.2.1:Nat) then l15.1.bind fun a16=>(Hx σ a16.block (a16.off+y*8+5)).bind fun l17=>if 0≤(n:Int)∧(n:Int)<(l17.2.1:Nat) then l17.1.bind fun a18=>(AX.K3 σ a18.block (a18.off+((n:Int)).toNat*1) (.int .i64 v)).bind fun s19=>some (Value.int .i64 0,s19) else none else none) σ i (.int .i64 0) (MH m (a+2+0+(n:Int)).toNat v):=by
    obtain ⟨b2,σ',t',e,h',s1,s2,k'⟩:=Ajl h hP F n (by omega) v
    rw[if_pos g1] at e
    have qn:(0≤(n:Int)∧(n:Int)<(((A5 m j).toNat:Nat):Int))=True:=eq_true (by omega)
    rw[show (a+2+0+(n:Int)).toNat=2*j+2+n from by rw[F.e]; omega]
    exact ⟨σ',i,t',by simp only[h.at_.GJ,Option.bind_some,qy,if_true,F.os,Nat.zero_add,F.ld.l5,rl,qn,e.1,Int.toNat_natCast,Nat.mul_one,e.2],h',s1,s2,k'⟩
   by_cases g2:v=0
   ·subst g2
    simp only[bne_self_eq_false,cond_false,Option.bind_some,ne_eq,not_true_eq_false,false_and,if_false]
    exact fin
   ·simp only[bne_iff_ne.2 g2,cond_true,eh,Option.bind_some,Ar]
    cases hv:Ea m v with
    | false=>
      simp only[Bool.not_false,cond_true,ne_eq,g2,not_false_eq_true,and_self,if_true]
      exact Fx.Tw h hP rfl
    | true=>
      simp only[Bool.not_true,cond_false,Bool.true_eq_false,and_false,if_false]
      exact fin
theorem sd:∀ (l:List RO) (om:List (Ce × Ce)) (y:Nat) (hy:y<l.length) (hy':y<om.length) (v:Bool),(Eb l om).set (y*8+7) (.bool v)=Eb (l.set y { l[y] with lU:=v }) om
 | [],om,y,hy,_,_=>by simp at hy
 | a::l,[],y,_,hy',_=>by simp at hy'
 | a::l,p::om,0,hy,hy',v=>rfl
 | a::l,p::om,y+1,hy,hy',v=>by
   have ih:=sd l om y (by simpa using hy) (by simpa using hy') v
   simp only[List.set_cons_succ,Eb,List.getElem_cons_succ]
   rw[← ih,List.set_append_right _ _ (by simp[Bf]; omega)]
   congr 2
   simp[Bf]; omega
theorem K5.Ajm (h:K5 σ i t) {y b:Nat} (hy:y<t.ob.length) (e:i.os.1=some ⟨b,0,none⟩) (hc:σ[b]?=some (.cells (Eb t.ob i.om) Ac true)) (v:Bool):
  AX.K3 σ b (y*8+7) (.bool v)=some (σ.set b (.cells (Eb (t.ob.set y { t.ob[y] with lU:=v }) i.om) Ac true))∧K5 (σ.set b (.cells (Eb (t.ob.set y { t.ob[y] with lU:=v }) i.om) Ac true)) i { t with ob:=t.ob.set y { t.ob[y] with lU:=v } }∧Ib i i σ (σ.set b (.cells (Eb (t.ob.set y { t.ob[y] with lU:=v }) i.om) Ac true)):=by
 have sep:=h.sep
 have hy':y<i.om.length:=by rw[h.ol]; exact hy
 have hb:=UE e
 have hl:=UP t.ob i.om h.ol
 refine ⟨?_,{ hp:=?_,bl:=?_,ob:=?_,fw:=?_,ol:=by show _=(t.ob.set y _).length; rw[List.length_set]; exact h.ol,inn:=?_,nd:=h.nd,lt:=fun j hj=>by rw[List.length_set]; exact h.lt j hj },Ib.set _ _ (RI.Lu.2 (.inr (.inr (.inl hb))))⟩
 ·have:y*8+7<(Eb t.ob i.om).length:=by omega
  simp only[AX.K3,hc,this,if_true,sd t.ob i.om y hy hy' v]
 ·rw[List.getElem?_set_ne (fun e:b=i.hb=>sep.hB (by rw[← e]; exact hb))]; exact h.hp
 ·exact h.bl.AG fun a ha=>List.getElem?_set_ne fun e:b=a.block=>sep.AB a.block (Ch.2 ⟨a,ha,rfl⟩) (by rw[← e]; exact hb)
 ·have:=h.ob.form
  rw[e] at this
  refine .inr ⟨b, ?_,Nat.zero_le _, ?_,List.getElem?_set_self (Al hc)⟩
  ·show i.os=(_,(t.ob.set y _).length,(t.ob.set y _).length); rw[List.length_set]; exact this
  ·exact UP _ _ (by rw[List.length_set]; exact h.ol)
 ·exact h.fw.AG fun a ha=>List.getElem?_set_ne fun e:b=a.block=>sep.BC b hb (by rw[e]; exact Ch.2 ⟨a,ha,rfl⟩)
 ·intro z h1 h2
  have h1':z<t.ob.length:=by simpa using h1
  show Fg _ i.om[z].1 (t.ob.set y _)[z].refs∧Fg _ i.om[z].2 (t.ob.set y _)[z].data
  have hz:=h.inn z h1' h2
  have hz':Fg (σ.set b (.cells (Eb (t.ob.set y { t.ob[y] with lU:=v }) i.om) Ac true)) i.om[z].1 t.ob[z].refs∧Fg (σ.set b (.cells (Eb (t.ob.set y { t.ob[y] with lU:=v }) i.om) Ac true)) i.om[z].2 t.ob[z].data:=
   ⟨hz.1.AG fun d hd=>List.getElem?_set_ne fun e':b=d=>sep.BD b hb (by rw[e']; exact Kw h2 (.inl hd)),hz.2.AG fun d hd=>List.getElem?_set_ne fun e':b=d=>sep.BD b hb (by rw[e']; exact Kw h2 (.inr hd))⟩
  by_cases e:y=z
  ·subst e
   rw[List.getElem_set_self]
   exact hz'
  ·rw[List.getElem_set_ne e]
   exact hz'
theorem Aha (k:Nat) (hk:5000≤k) (h:RG σ i m t) (hP:OI m) (hS:Sh m) (a:Int) (v:Bool):Fx (Kl (k+4) (Cq i) a v σ) σ i (.int .i64 (QD m a (if v then 1 else 0)).1) (QD m a (if v then 1 else 0)).2:=by
 have hol:=h.ol
 rw[eu,RS]
 try simp only[sw,Ad,Af,Ae]
 have hix:=Y1 (k+1) (by omega) h a
 simp only[jn k hk h a,Option.bind_some,Aj]
 unfold QD
 cases hh:Ea m a with
 | false=>
   simp only[Bool.false_eq_true,if_false,ne4,cond_true]
   exact Fx.Tw h hP rfl
 | true=>
   obtain ⟨y,j,b,p,F⟩:=h.found hh
   have hy:=F.xl
   have ea:a.toNat/2=j:=by rw[F.e,Int.toNat_natCast]; omega
   have qy:(0≤(y:Int)∧(y:Int)<((t.ob.length:Nat):Int))=True:=eq_true (by omega)
   obtain ⟨e1,h1,k1⟩:=h.at_.Ajm hy F.os F.cell v
   obtain ⟨s1,s2⟩:=h.sim.pins h.inv hS hP F.st F.all v
   have eo:t.ob[y]'F.xl=Cs m j:=by have:=F.ob; rw[List.getElem?_eq_getElem F.xl] at this; exact Option.some.inj this
   rw[ea]
   simp only[if_true,bne_self_eq_false,cond_false,Nat.zero_add,h.at_.GJ,hix,Option.bind_some,Aj,F.idx,qy,F.os,Int.toNat_natCast,e1]
   exact ⟨_,i,_,rfl,h1,by rw[eo]; exact s1,s2,k1⟩
theorem Ag7 (k:Nat) (hk:5000≤k) (h:RG σ i m t) (hP:OI m) (hS:Sh m) (a:Int):Fx (G5 (k+5) (Cq i) a σ) σ i (.int .i64 (QD m a 1).1) (QD m a 1).2:=by
 obtain ⟨σ',i',t',e,r⟩:=Aha k hk h hP hS a true
 refine ⟨σ',i',t', ?_,r⟩
 rw[ei,RQ]
 try simp only[sw,Ad,Af,Ae]
 simp only[e,Option.bind_some,Aj,if_true]
end Go.Proofs.YtjbledomkmdkmaaGreat
end
section
namespace Go.Proofs.YtjbledomkmdkmaaGreat
open Go Go.AX
noncomputable local instance qSA:A9:=Aw
local instance nSA:Kn:=⟨true⟩
variable {σ:Aa} {m:HM} {t:RM} {i:RI}
theorem K5.Ahc (h:K5 σ i t) (v:Int):∃ c,AX.K3 σ i.hb 3 (.int .i64 v)=some (σ.set i.hb c)∧K5 (σ.set i.hb c) i { t with born:=v }:=
 ⟨_,by simp only[AX.K3,h.hp]; rfl,K5.vD (t:={ t with born:=v }) h.bl h.ob h.fw h.ol h.inn h.sep h.lt⟩
theorem jm (n:Nat):rep n [Value.int .i64 0]=Bm (List.replicate n 0):=by
 simp[rep,Bm]
theorem sy (k:Nat) (hk:5000≤k) (h:RG σ i m t) (hP:OI m) (hS:Sh m) (hb:m.births<1000000) (a r d c:Int):
  Fx (Ft (k+5) (Cq i) a r d c σ) σ i (.tuple #[.int .i64 (Hc m a r d c).1,.int .i64 (Hc m a r d c).2.1]) (Hc m a r d c).2.2:=by
 have hnt:=h.nt
 have hwl:=h.wl
 have hol:=h.ol
 have hbr:=h.inv.brt
 obtain ⟨S,hSS⟩:∃ S,A6.cells [.int .i64 r,.int .i64 d,.int .i64 c] Ag true=S:=⟨_,rfl⟩
 have hg:=h.app [S]
 have hq:(σ++[S])[σ.length]?=some (.cells [.int .i64 r,.int .i64 d,.int .i64 c] Ag true):=by rw[← hSS]; simp
 obtain ⟨b0,b1,b2⟩:=Md hq
 obtain ⟨τ1,eV⟩:=jl (k+3) r d c (σ++[S])
 have hg1:=hg.app τ1
 have hq1:(σ++[S]++τ1)[σ.length]?=_:=(List.getElem?_append_left (Al hq)).trans hq
 obtain ⟨d0,d1,d2⟩:=Md hq1
 have eM:AF (k+4) (Cq i) (σ++[S])=_:=UJ (k+3) hg
 rw[aP,OT]
 try simp only[sw,Ad,Af,Ae]
 simp only[AM,hSS,eM,Option.bind_some,Ar,Bool.not_true,cond_false,Nat.zero_add,Nat.reduceAdd,Nat.add_zero,b0,b1,b2,eV]
 unfold Hc
 cases hv:valid r d c with
 | false=>
   simp only[Bool.not_false,cond_true,Bool.false_eq_true,if_false]
   exact Fx.same h hP ([S]++τ1) (by rw[← List.append_assoc])
 | true=>
 obtain ⟨τ2,eF⟩:=Aez k hk hg1 a (-1) 0 hv (fun o ho=>by
  have:=(h.inv.idn o ho).1
  constructor
  ·intro e; omega
  ·intro e; omega)
 simp only[Bool.not_true,cond_false,if_true,d0,d1,d2,Option.bind_some,eF,Aj]
 by_cases hf:QB m a (XF (num r d c)) (-1)=0
 rotate_left
 ·rw[if_neg hf]
  simp only[bne_iff_ne.2 hf,cond_true]
  exact Fx.same h hP ([S]++τ1++τ2) (by simp only[← List.append_assoc])
 rw[if_pos hf]
 have hw2:2≤XF (num r d c):=by
  have hv':=hv
  rw[OG hv]
  simp[valid] at hv'
  omega
 obtain ⟨j,rfl,hj,hfit,hap⟩:=h.inv.fits hwl (pY _) hw2 hf
 rw[show ((2*j:Nat):Int).toNat/2=j from by omega]
 obtain ⟨s1,s2⟩:=h.sim.place h.inv h.inv2 hS hP hv hj (fun o ho=>hap o ho (by omega))
 have hg2:=hg1.app τ2
 obtain ⟨C,eS,h4⟩:=hg2.at_.Ahc (t.born+1)
 have hq2:(σ++[S]++τ1++τ2)[σ.length]?=_:=(List.getElem?_append_left (Al hq1)).trans hq1
 have hhb:i.hb<σ.length:=h.at_.lt _ i.Pg
 have hq3:((σ++[S]++τ1++τ2).set i.hb C)[σ.length]?=_:=(List.getElem?_set_ne (show i.hb≠σ.length by omega)).trans hq2
 have hlen:((σ++[S]++τ1++τ2).set i.hb C).length=σ.length+1+τ1.length+τ2.length:=by simp; omega
 have hs4:∀ x,x<σ.length→x≠i.hb→((σ++[S]++τ1++τ2).set i.hb C)[x]?=σ[x]?:=fun x hx hne=>by
  rw[List.getElem?_set_ne (Ne.symm hne),List.append_assoc,List.append_assoc,List.getElem?_append_left hx]
 have ld3':=hg2.at_.uu
 generalize (σ++[S]++τ1++τ2).set i.hb C=μ at h4 eS hq3 hlen hs4
 obtain ⟨c0,c1,c2⟩:=Md hq3
 have hv':=hv
 simp[valid] at hv'
 obtain ⟨rn,rfl⟩:∃ n:Nat,r=(n:Int):=⟨r.toNat,by omega⟩
 obtain ⟨dn,rfl⟩:∃ n:Nat,d=(n:Int):=⟨d.toNat,by omega⟩
 have w:Cf (t.born+1)=t.born+1:=Ak (by rw[h.sim.born]; unfold AU; omega)
 have qr:(0≤(rn:Int)∧(rn:Int)≤(rn:Int)∧(rn:Int)*((8:Nat):Int)≤2 ^ 40∧(rn:Int)≤2 ^ 40)=True:=eq_true (by omega)
 have qd:(0≤(dn:Int)∧(dn:Int)≤(dn:Int)∧(dn:Int)*((8:Nat):Int)≤2 ^ 40∧(dn:Int)≤2 ^ 40)=True:=eq_true (by omega)
 obtain ⟨A,hA⟩:∃ A,A6.cells (Bm (List.replicate rn 0)) As true=A:=⟨_,rfl⟩
 obtain ⟨D,hD⟩:∃ D,A6.cells (Bm (List.replicate dn 0)) As true=D:=⟨_,rfl⟩
 have hq5:(μ++[A])[σ.length]?=_:=(List.getElem?_append_left (Al hq3)).trans hq3
 obtain ⟨_,f1,_⟩:=Md hq5
 have h6:K5 (μ++[A]++[D]) i { t with born:=t.born+1 }:=(h4.app [A]).app [D]
 have gA:(μ++[A]++[D])[μ.length]?=some (.cells (Bm (List.replicate rn 0)) As true):=by rw[hA]; simp
 have gD:(μ++[A]++[D])[(μ++[A]).length]?=some (.cells (Bm (List.replicate dn 0)) As true):=by rw[hD]; simp
 have ltl:∀ x ∈ i.l,x<σ.length:=h.at_.lt
 obtain ⟨σ',os',eP,hR,hsame,hle,hnew,hin⟩:=Ahb (k+3) (by omega) h6 (by show t.ob.length≤4900; omega) ⟨((2*j:Nat):Int),t.born+1,(rn:Int),(dn:Int),c,List.replicate rn 0,List.replicate dn 0,false⟩ ((some ⟨μ.length,0,none⟩,rn,rn),(some ⟨(μ++[A]).length,0,none⟩,dn,dn))
  ⟨by simp,fun _=>⟨μ.length,rn,by simp,gA⟩,fun a ha=>by cases ha; exact ⟨_,_,_,gA,Nat.zero_le _⟩⟩ ⟨by simp,fun _=>⟨(μ++[A]).length,dn,by simp,gD⟩,fun a ha=>by cases ha; exact ⟨_,_,_,gD,Nat.zero_le _⟩⟩
  (by
   intro x hx
   have:x=μ.length∨x=(μ++[A]).length:=by
    rcases hx with hx | hx
    ·obtain ⟨q,e,rfl⟩:=Ch.1 hx
     cases e; exact .inl rfl
    ·obtain ⟨q,e,rfl⟩:=Ch.1 hx
     cases e; exact .inr rfl
   refine ⟨?_,fun hm=>?_⟩
   ·have hl:(μ++[A]).length=μ.length+1:=by simp
    have hl2:(μ++[A]++[D]).length=μ.length+2:=by simp
    rcases this with e | e <;> omega
   ·have:=ltl x hm
    have hl:(μ++[A]).length=μ.length+1:=by simp
    rcases ‹x=μ.length∨x=(μ++[A]).length› with e | e <;> omega)
  (by simp[hs])
 have eP':HW (k+4) (Cq i) ((2*j:Nat):Int) (t.born+1) (rn:Int) (dn:Int) c (some ⟨μ.length,0,none⟩,rn,rn) (some ⟨(μ++[A]).length,0,none⟩,dn,dn) false (μ++[A]++[D])=some (.tuple #[],σ'):=eP
 refine ⟨σ',_,_, ?_,hR,s1,s2,⟨by simp at hle; omega,fun x hx hn=>?_,fun x hx=>?_,rfl⟩⟩
 ·simp only[bne_self_eq_false,hf,cond_false,ld3',Option.bind_some,w,eS,h4.uu,c0,c1,c2,qr,if_true,Int.toNat_natCast,jm,hA,f1,qd,hD,eP',M8]
  have:=hR.uu
  simp only at this
  rw[this,h.sim.born]
  rfl
 ·have hne:x≠i.hb:=fun e=>hn (by rw[e]; exact i.Pg)
  rw[hsame x (by simp; omega) hne,List.append_assoc,List.getElem?_append_left (by omega),hs4 x hx hne]
 ·rcases hin x hx with e | e | e | e
  ·exact .inl e
  ·obtain ⟨q,e',rfl⟩:=Ch.1 e
   cases e'
   exact .inr (by show σ.length≤μ.length; omega)
  ·obtain ⟨q,e',rfl⟩:=Ch.1 e
   cases e'
   exact .inr (by show σ.length≤(μ++[A]).length; simp; omega)
  ·exact .inr (by simp at e; omega)
end Go.Proofs.YtjbledomkmdkmaaGreat
end
section
namespace Go.Proofs.YtjbledomkmdkmaaGreat
open Go Go.AX
noncomputable local instance qSB:A9:=Aw
local instance nSB:Kn:=⟨true⟩
variable {σ:Aa} {m:HM} {t:RM} {i:RI}
theorem ox:∀ l l':List (Int × Int),Dd (l++l')=Dd l++Dd l'
 | [],l'=>rfl
 | e::l,l'=>by simp only[List.cons_append,Dd,ox l l']
end Go.Proofs.YtjbledomkmdkmaaGreat
end
section
namespace Go.Proofs.YtjbledomkmdkmaaGreat
open Go Go.AX
noncomputable local instance qCZ:A9:=Aw
local instance nCZ:Kn:=⟨true⟩
variable {σ:Aa} {i:DD} {m:HM}
theorem eqW (a:Addr) (n c:Nat):Od P HJ (.slice (some a) n c) (.slice none 0 0)=some false:=by kernel_rfl
theorem xj {E:TypeId} {s by_:Nat} {z:Value} (hs:IW P E=some s) (hb:bytesOf P E=some by_) (hz:FT P E=some z) (hz1:Hb z=false) (hz2:z.cells.size=s) (hs0:0<s) (hb0:0<by_) (hb1:by_≤1000)
  (σ:Aa) (p:Option Addr) (n c:Nat) (hn:0<n) (hn1:n≤100000) (row:List Value) (hf:Ds (σ++[.cells [] E true]) s p n=some row):
  B9 P E (some ⟨σ.length,0,some 0⟩,0,0) (p,n,c) (σ++[.cells [] E true])=some ((some ⟨σ.length+1,0,none⟩,n,n),σ++[A6.cells [] E true,.cells row E true]):=by
 unfold B9 Qf
 have h1:(¬ (Hb z=false∧some s=some z.cells.size∧0<z.cells.size))=False:=by
  rw[hz1,hz2]; simp[hs0]
 have r:QG (0+n) by_∧0<by_:=by
  unfold QG
  have:(0+n)*by_≤100000*1000:=Nat.mul_le_mul (by omega) hb1
  refine ⟨⟨by omega,by omega⟩,hb0⟩
 have e1:elemAt (σ++[.cells [] E true]) σ.length=some E:=by simp[elemAt]
 have e2:ZA (σ++[.cells [] E true]) σ.length 0 (0*s)=some []:=by simp[ZA]
 have e3:Jg (σ++[.cells [] E true]) σ.length=true:=by simp[Jg]
 simp only[hs,hb,hz,hf,Option.bind_some,h1,if_false,show ¬ (0+n≤0) from by omega,r,and_self,if_true,Is,Option.isSome_some,cond_true,slK]
 simp
theorem sv (σ τ:Aa) {ρ:Type} (x:Option ρ):QE σ (σ++τ) x=x:=tS σ τ x
end Go.Proofs.YtjbledomkmdkmaaGreat
end
