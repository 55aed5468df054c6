/- The chapters' examples, each run once; known from here on.; What the functions of side tables come to, on a table that was made.; Valid and Words, by  -/
import Derived.Test.YtlaplcglpnlieaaGreatP11
import Derived.Test.YtlaplcglpnlieaaGreatP7
set_option linter.unusedVariables false
set_option linter.unusedSimpArgs false
set_option linter.unusedSectionVars false
section
set_option maxRecDepth 100000
namespace Go.Proofs.YtlaplcglpnlieaaGreat
open Go Go.AX
theorem Z6:Vl (@RF Oj 300 [])=true:=by kernel_rfl
abbrev X2:Ext:=XK true
theorem sT [AF]:kK P (XK false):=by
 intro f g hg
 unfold XK at hg
 split at hg
 ·exact rY f g hg
 exact rY f g hg
theorem qJ:WV (XK false):=by
 intro f g hg
 unfold XK at hg
 split at hg
 ·exact kH f g hg
 exact kH f g hg
theorem o7 (hmix:P.follows .mixedOrders=true) {a:FuncId} (hrun:Vl (@fn Oj P (XK false) H 300 a [] [])=true):SK P (fun f args σ=>if f=a then eH args σ else none):=
 jV (@nY P Oj hmix (XK false) (@sT Oj) qJ H 300) hrun
theorem Xv:Vl (@fn Oj P (XK false) H 300 20 [] [])=true:=by
 have:=Z6
 rw[← @bj Oj] at this
 simp only[Fo,Ab] at this
 exact this
theorem sS (hmix:P.follows .mixedOrders=true):kK P X2:=by
 intro f g hg
 unfold X2 XK at hg
 split at hg
 ·rename_i hf; subst hf; cases hg; exact o7 hmix Xv
 exact @rY Oj f g hg
theorem qI:WV X2:=by
 have ht:∀ args σ v σ',eH args σ=some (v,σ')→σ <+: σ':=by
  intro args σ v σ' h
  unfold eH at h
  split at h
  ·cases h; exact List.prefix_rfl
  ·cases h
 intro f g hg args σ v σ' h
 unfold X2 XK at hg
 split at hg
 ·cases hg; exact ht _ _ _ _ h
 exact kH f g hg args σ v σ' h
end Go.Proofs.YtlaplcglpnlieaaGreat
end
section
namespace Go.Proofs.YtlaplcglpnlieaaGreat
open Go Go.AX
noncomputable local instance vl:AF:=Au
local instance ua:Kn:=⟨true⟩
def rowOf (ws:List (BitVec 64)):List Value:=ws.map fun x=>.int .u64 (x.toNat:Int)
structure Fl (σ:Aa) (tb wb e w:Nat) (ws:List (BitVec 64)):Prop where
 tab:σ[tb]?=some (.cells [.int .i64 (e:Int),.int .i64 (w:Int),.slice (some ⟨wb,0,none⟩) ws.length ws.length] RL true)
 row:σ[wb]?=some (.cells (rowOf ws) BN true)
 len:ws.length=(e*w+63)/64
 pos:0<e
 top:e≤4096
 okw:okW w
variable {σ:Aa} {tb wb e w:Nat} {ws:List (BitVec 64)}
theorem Fl.ta (h:Fl σ tb wb e w ws):Ai .i64 σ tb 0=some (e:Int):=by
 simp[Ai,Gy,h.tab,BA]
theorem Fl.sd (h:Fl σ tb wb e w ws):Ai .i64 σ tb 1=some (w:Int):=by
 simp[Ai,Gy,h.tab,BA]
theorem Fl.tD (h:Fl σ tb wb e w ws):Ew σ tb 2=some (some ⟨wb,0,none⟩,ws.length,ws.length):=by
 simp[Ew,Gy,h.tab,H7]
theorem Fl.tE (h:Fl σ tb wb e w ws) {j:Nat} (hj:j<ws.length):Ai .u64 σ wb j=some ((ws.getD j 0).toNat:Int):=by
 simp[Ai,Gy,h.row,rowOf,BA,List.getElem?_eq_getElem hj]
theorem Fl.same {σ':Aa} (h:Fl σ tb wb e w ws) (h1:σ'[tb]?=σ[tb]?) (h2:σ'[wb]?=σ[wb]?):Fl σ' tb wb e w ws:=
 ⟨by rw[h1]; exact h.tab,by rw[h2]; exact h.row,h.len,h.pos,h.top,h.okw⟩
theorem Ae {α:Type} {l:List α} {i:Nat} {x:α} (h:l[i]?=some x):i<l.length:=by
 rcases Nat.lt_or_ge i l.length with h' | h'
 ·exact h'
 ·rw[List.getElem?_eq_none h'] at h; cases h
theorem Fl.lt (h:Fl σ tb wb e w ws):tb<σ.length∧wb<σ.length:=by
 exact ⟨Ae h.tab,Ae h.row⟩
theorem Fl.app (τ:Aa) (h:Fl σ tb wb e w ws):Fl (σ++τ) tb wb e w ws:=
 h.same (List.getElem?_append_left h.lt.1) (List.getElem?_append_left h.lt.2)
theorem ZJ (k:Nat) (h:Fl σ tb wb e w ws):Cb (k+1) (some ⟨tb,0,none⟩) σ=some (.bool true,σ):=by
 have hp:=h.pos
 rw[OR,Ni]
 simp only[aF,Option.bind_some,h.ta,Nat.add_zero,Nat.zero_add,Option.isNone_some,Bool.not_false,cond_true]
 simp only[show decide ((e:Int)>0)=true from by simp; omega]
theorem jd (k:Nat) (h:Fl σ tb wb e w ws) (i:Int):D1 (k+2) (some ⟨tb,0,none⟩) i σ=some (.bool (decide (0≤i∧i<(e:Int))),σ):=by
 rw[NK,Mb,ZJ _ h]
 simp only[Option.bind_some,As,cond_true,h.ta,Nat.add_zero]
 by_cases h0:0≤i
 ·simp[h0]
 ·simp[h0]
theorem fC (k:Nat) (h:Fl σ tb wb e w ws):CK (k+1) (some ⟨tb,0,none⟩) σ=some (.int .i64 ((2 ^ w-1:Nat):Int),σ):=by
 rw[OS,Nj]
 simp only[Option.bind_some,h.sd,Nat.zero_add]
 rcases h.okw with rfl | rfl | rfl | rfl <;> rfl
theorem Fl.fit (h:Fl σ tb wb e w ws) {j:Nat} (hj:j<e):j*w/64<ws.length∧j*w<32768:=by
 have hl:=h.len; have ht:=h.top
 rcases h.okw with rfl | rfl | rfl | rfl <;> omega
theorem jO (k:Nat) (h:Fl σ tb wb e w ws) {j:Nat} (hj:j<e):Dd (k+2) (some ⟨tb,0,none⟩) (j:Int) σ=some (.int .i64 (Ge w ws j:Int),σ):=by
 obtain ⟨h1,h2⟩:=h.fit hj
 have e1:Ac ((j:Int)*(w:Int))=((j*w:Nat):Int):=by rw[← Int.natCast_mul]; exact XN (by omega)
 have e2:((j*w:Nat):Int).tdiv 64=((j*w/64:Nat):Int):=rfl
 have e3:((j*w:Nat):Int).tmod 64=((j*w % 64:Nat):Int):=rfl
 have e4:Ac ((j*w/64:Nat):Int)=((j*w/64:Nat):Int):=XN (by omega)
 rw[P6,Og]
 simp only[Option.bind_some,Nat.zero_add,h.sd,h.tD,e1,e2,e3,e4,Int.toNat_natCast,Nat.mul_one]
 rw[if_neg (by decide),if_pos (by omega)]
 simp only[h.tE h1,Option.bind_some]
 rw[if_neg (by decide),if_neg (by omega)]
 simp only[Option.bind_some,fC _ h,Am,oh _ _ _ (Nat.mod_lt _ (by decide:0<64)) h.okw]
 rfl
theorem qZ (k:Nat) (h:Fl σ tb wb e w ws) (i:Int):FX (k+3) (some ⟨tb,0,none⟩) i σ=some (.int .i64 (if 0≤i∧i<(e:Int) then (Ge w ws i.toNat:Int) else -1),σ):=by
 rw[P4,Oe,jd _ h]
 simp only[Option.bind_some,As]
 by_cases hi:0≤i∧i<(e:Int)
 ·obtain ⟨j,rfl⟩:∃ j:Nat,i=(j:Int):=⟨i.toNat,by omega⟩
  simp only[hi,decide_true,and_self,Bool.not_true,cond_false,if_true,jO _ h (show j<e by omega),Option.bind_some,Am,Int.toNat_natCast]
 ·simp only[hi,decide_false,Bool.not_false,cond_true,if_false]
theorem rO (k:Nat) (h:Fl σ tb wb e w ws) {j v:Nat} (hj:j<e):FY (k+2) (some ⟨tb,0,none⟩) (j:Int) (v:Int) σ=some (.tuple #[],σ.set wb (.cells (rowOf (Hm w ws j v)) BN true)):=by
 obtain ⟨h1,h2⟩:=h.fit hj
 have hrow:=h.row
 have e1:Ac ((j:Int)*(w:Int))=((j*w:Nat):Int):=by rw[← Int.natCast_mul]; exact XN (by omega)
 have e2:((j*w:Nat):Int).tdiv 64=((j*w/64:Nat):Int):=rfl
 have e3:((j*w:Nat):Int).tmod 64=((j*w % 64:Nat):Int):=rfl
 have e4:Ac ((j*w/64:Nat):Int)=((j*w/64:Nat):Int):=XN (by omega)
 rw[P7,Oh]
 simp only[Option.bind_some,Nat.zero_add,h.sd,h.tD,e1,e2,e3,e4,Int.toNat_natCast,Nat.mul_one]
 rw[if_neg (by decide),if_pos (by omega)]
 simp only[h.tE h1,Option.bind_some,fC _ h,Am]
 rw[if_neg (by decide),if_neg (by omega),if_neg (by decide),if_neg (by omega),oQ _ _ _ _ (Nat.mod_lt _ (by decide:0<64))]
 simp only[G0,hrow]
 rw[if_pos (by simpa [rowOf] using h1)]
 simp only[Option.bind_some,rowOf,Hm,List.map_set]
theorem Fl.put (h:Fl σ tb wb e w ws) (hne:tb≠wb) (j v:Nat):Fl (σ.set wb (.cells (rowOf (Hm w ws j v)) BN true)) tb wb e w (Hm w ws j v) where
 tab:=by
  rw[List.getElem?_set_ne (Ne.symm hne),h.tab,MO]
 row:=by rw[List.getElem?_set_self h.lt.2]
 len:=by rw[MO]; exact h.len
 pos:=h.pos
 top:=h.top
 okw:=h.okw
theorem ZY (k:Nat) (h:Fl σ tb wb e w ws) (v:Nat):∀ (n j:Nat),e<n+j→0<n→Dr (k+2) n (some ⟨tb,0,none⟩) (v:Int) (j:Int) σ =
  some (match Sz (Ge w ws) e v j with | some i=>(.ret,[.int .i64 (i:Int),.int .i64 0],σ) | none=>(.exit 0,[],σ))
 | 0,j,hn,h0=>by omega
 | n+1,j,hn,h0=>by
   rw[MG,Ku,Sz]
   simp only[Option.bind_some,h.ta,Nat.zero_add,Nat.add_zero]
   by_cases hj:j<e
   ·have ht:=h.top
    simp only[show decide ((j:Int)<(e:Int))=true from by simpa using hj,cond_true,jO _ h hj,Option.bind_some,Am,hj,dif_pos]
    by_cases hv:Ge w ws j=v
    ·simp[hv]
    ·have hv':((Ge w ws j:Int) == (v:Int))=false:=by simp; omega
     have e1:Ac ((j:Int)+1)=((j+1:Nat):Int):=Ad (by unfold AW; omega)
     simp only[hv',cond_false,hv,if_false,e1]
     exact ZY k h v n (j+1) (by omega) (by omega)
   ·simp only[show decide ((j:Int)<(e:Int))=false from by simpa using hj,cond_false,hj,dif_neg,not_false_iff]
theorem kN (k:Nat) (hk:5000≤k) (h:Fl σ tb wb e w ws) (i:Int) (v:Nat) (hi:i<4294967296):CJ (k+3) (some ⟨tb,0,none⟩) i (v:Int) σ =
  some (match Sz (Ge w ws) e v i.toNat with | some j=>.tuple #[.int .i64 (j:Int),.int .i64 0] | none=>.tuple #[.int .i64 0,.int .i64 4],σ):=by
 have ht:=h.top
 have e0:(if (0:Int)>i then (0:Int) else i)=(i.toNat:Int):=by split <;> omega
 rw[OQ,Nh,ZJ _ h]
 simp only[Option.bind_some,As,Bool.not_true,cond_false,e0]
 rw[ZY k h v (k+2) i.toNat (by omega) (by omega)]
 cases Sz (Ge w ws) e v i.toNat with
 | none=>simp
 | some j=>simp[GK]
theorem ZW (k:Nat) (h:Fl σ tb wb e w ws) (v:Nat):∀ (n j:Nat),j≤e→j<n→Dq (k+2) n (some ⟨tb,0,none⟩) (v:Int) ((j:Int)-1) σ =
  some (match Sv (Ge w ws) v j with | some i=>(.ret,[.int .i64 (i:Int),.int .i64 0],σ) | none=>(.exit 0,[],σ))
 | 0,j,hj,hn=>by omega
 | n+1,0,hj,hn=>by
   rw[IL,HD,Sv]
   rfl
 | n+1,j+1,hj,hn=>by
   have ht:=h.top
   rw[IL,HD,Sv]
   have e1:((j+1:Nat):Int)-1=(j:Int):=by omega
   simp only[e1,show decide ((j:Int)≥0)=true from by simp,cond_true,jO _ h (show j<e by omega),Option.bind_some,Am]
   by_cases hv:Ge w ws j=v
   ·simp[hv]
   ·have hv':((Ge w ws j:Int) == (v:Int))=false:=by simp; omega
    have e2:Ac ((j:Int)-1)=(j:Int)-1:=Ad (by unfold AW; omega)
    simp only[hv',cond_false,hv,if_false,e2]
    exact ZW k h v n j (by omega) (by omega)
theorem pF (k:Nat) (hk:5000≤k) (h:Fl σ tb wb e w ws) (i:Int) (v:Nat):Fx (k+3) (some ⟨tb,0,none⟩) i (v:Int) σ =
  some (match Sv (Ge w ws) v (min i.toNat e) with | some j=>.tuple #[.int .i64 (j:Int),.int .i64 0] | none=>.tuple #[.int .i64 0,.int .i64 4],σ):=by
 have ht:=h.top
 have e0:Ac ((if (e:Int)<(if (0:Int)>i then (0:Int) else i) then (e:Int) else (if (0:Int)>i then (0:Int) else i))-1)=((min i.toNat e:Nat):Int)-1:=by
  rw[Ad (by unfold AW; split <;> split <;> omega)]
  split <;> split <;> omega
 rw[OP,Ng,ZJ _ h]
 simp only[Option.bind_some,As,Bool.not_true,cond_false,Nat.zero_add,h.ta,Nat.add_zero,e0]
 rw[ZW k h v (k+2) (min i.toNat e) (Nat.min_le_right _ _) (by omega)]
 cases Sv (Ge w ws) v (min i.toNat e) with
 | none=>simp
 | some j=>simp[GK]
theorem px (k:Nat) (h:Fl σ tb wb e w ws) (v:Int):ET (k+2) (some ⟨tb,0,none⟩) v σ=some (.bool (decide (0≤v∧v≤((2 ^ w-1:Nat):Int))),σ):=by
 rw[NL,Mc]
 by_cases h0:0≤v
 ·simp only[show decide (v≥0)=true from by simpa using h0,cond_true,fC _ h,Option.bind_some,Am]
  simp[h0]
 ·simp only[show decide (v≥0)=false from by simpa using h0,cond_false,Option.bind_some]
  simp[h0]
theorem gJ (k:Nat) (h:Fl σ tb wb e w ws) (v:Int) (c:Nat) (hc:Js σ c 0=some (some ⟨tb,0,none⟩)):C2 (k+3) v (some ⟨c,0,none⟩) σ=some (.bool (!decide (0≤v∧v≤((2 ^ w-1:Nat):Int))),σ):=by
 rw[LB,JK]
 simp only[Option.bind_some,hc,px _ h,As]
theorem nO (k:Nat) (h:Fl σ tb wb e w ws) (i v:Int) (vb:Nat) (hv:Ai .i64 σ vb 0=some v) (hvb:vb<σ.length):∃ τ,ES (k+8) (some ⟨tb,0,none⟩) i (some ⟨vb,0,none⟩,1,1) σ =
  some (.int .i64 (if (0≤i∧i<(e:Int))∧(0≤v∧v≤((2 ^ w-1:Nat):Int)) then 0 else 1),σ++τ):=by
 rw[NJ,Ma]
 simp only[Ap]
 refine ⟨[.cells [.pointer (some ⟨tb,0,none⟩)] LK true], ?_⟩
 ·have e1:∀ T,Js (σ++[.cells [.pointer (some ⟨tb,0,none⟩)] T true]) σ.length 0=some (some ⟨tb,0,none⟩):=by intro T; simp[Js,Gy,XP]
  have h1:=fun o=>h.app [o]
  have e2:∀ o,Ai .i64 (σ++[o]) vb 0=some v:=by intro o; rw[ft _ _ _ hvb,hv]
  simp only[e1,Option.bind_some,ZJ _ (h1 _),jd _ (h1 _),As,Bool.not_true,cond_false]
  by_cases hi:0≤i∧i<(e:Int)
  ·simp only[hi,decide_true,and_self,true_and,Bool.not_true,cond_false]
   rw[J4,Hw,Le,Jj,GA,FG]
   simp only[show decide ((0:Int)<((1:Nat):Int))=true from rfl,cond_true,show ((0:Int)≤0∧(0:Int)<((1:Nat):Int))=True from by simp,if_true,Option.bind_some,Int.toNat_zero,Nat.zero_mul,Nat.add_zero,e2]
   simp only[OE,if_true,gJ _ (h1 _) v σ.length (e1 _),Option.bind_some,As]
   by_cases hv2:0≤v∧v≤((2 ^ w-1:Nat):Int)
   ·simp only[hv2,decide_true,and_self,Bool.not_true,cond_false,if_true]
    rw[GA,FG]
    rfl
   ·simp only[hv2,decide_false,Bool.not_false,cond_true,if_false]
    rfl
  ·simp only[hi,decide_false,Bool.not_false,cond_true,false_and,if_false,Option.bind_some]
theorem jt (k:Nat) (h:Fl σ tb wb e w ws) {j v:Nat} (hj:j<e) (hv:v<2 ^ w):∃ τ,CB (k+9) (some ⟨tb,0,none⟩) (j:Int) (v:Int) σ =
  some (.int .i64 0,(σ++τ).set wb (.cells (rowOf (Hm w ws j v)) BN true)):=by
 have h1:=h.app [.cells [.int .i64 (v:Int)] B9 true]
 obtain ⟨τ,hc⟩:=nO k h1 (j:Int) (v:Int) σ.length (by simp[Ai,Gy,BA]) (by simp)
 refine ⟨[.cells [.int .i64 (v:Int)] B9 true]++τ, ?_⟩
 rw[P5,Of]
 simp only[Ap]
 rw[hc,if_pos (by have:=Nat.two_pow_pos w; omega)]
 simp only[Option.bind_some,Am]
 rw[rO (k+6) (h1.app τ) hj]
 simp only[bne_self_eq_false,cond_false,Option.bind_some,Ju,List.append_assoc]
end Go.Proofs.YtlaplcglpnlieaaGreat
end
section
namespace Go.Proofs.YtlaplcglpnlieaaGreat
open Go Go.AX
noncomputable local instance vR:AF:=Au
local instance uH:Kn:=⟨true⟩
def valid (a b c:Int):Bool:=decide (0≤a∧a≤15∧0≤b∧b≤200∧0≤c∧c≤3∧(c=1→1≤a)∧(c=2→2≤a))
def words (a b c:Int):Int:=bif valid a b c then (2+a+b+1)/2*2 else 0
theorem O4 (k:Nat) (a b c:Int) (σ:Aa):Zv (Ea (k+1) a b c σ) σ (.bool (valid a b c)):=by
 simp only[Zv,TF,SQ,Ap,LR,Nat.zero_add,List.getElem?_cons_zero,List.getElem?_cons_succ,Option.bind_some,Am,im]
 refine ⟨_,congrArg some (Prod.ext ?_ rfl)⟩
 refine congrArg Value.bool ?_
 unfold valid
 rw[Bool.eq_iff_iff]
 simp[Bool.cond_eq_ite]
 omega
theorem O5 (k:Nat) (a b c:Int) (σ:Aa):Zv (Ez (k+2) a b c σ) σ (.int .i64 (words a b c)):=by
 unfold Zv
 rw[TG,SR]
 simp only[Ap,LR,Nat.zero_add,List.getElem?_cons_zero,List.getElem?_cons_succ,Option.bind_some,Am]
 rw[(O4 _ _ _ _ _).eq]
 simp only[Option.bind_some,As,WB,List.getElem?_cons_zero,List.getElem?_cons_succ,Am]
 unfold words
 rcases Bool.eq_false_or_eq_true (valid a b c) with hv | hv
 rotate_left
 ·simp only[hv,Bool.not_false,cond_true,cond_false,List.append_assoc]
  exact ⟨_,rfl⟩
 ·simp only[hv,Bool.not_true,cond_true,cond_false,List.append_assoc]
  simp[valid] at hv
  simp only[show ((2:Int)=0)=False from by simp,if_false]
  refine ⟨_,congrArg some (Prod.ext (congrArg (Value.int .i64) ?_) rfl)⟩
  have hi:=hv
  simp only[Ac]
  have e1:IntKind.i64.wrap (2+a)=2+a:=by rw[IntKind.wrap_i64]; omega
  have e2:IntKind.i64.wrap (2+a+b)=2+a+b:=by rw[IntKind.wrap_i64]; omega
  have e3:IntKind.i64.wrap (2+a+b+1)=2+a+b+1:=by rw[IntKind.wrap_i64]; omega
  rw[e1,e2,e3,Int.tdiv_eq_ediv_of_nonneg (by omega),IntKind.wrap_i64,IntKind.wrap_i64]
  omega
end Go.Proofs.YtlaplcglpnlieaaGreat
end
section
namespace Go.Proofs.YtlaplcglpnlieaaGreat
open Go Go.AX
noncomputable local instance vh:AF:=Au
local instance tW:Kn:=⟨true⟩
structure Cs where
 hb:Nat
 bl:Nat
 wd:Nat
 st:Nat
 sw:Nat
 pn:Nat
 pw:Nat
 pl:Nat
 fw:Nat
def Cs.l (i:Cs):List Nat:=[i.hb,i.bl,i.wd,i.st,i.sw,i.pn,i.pw,i.pl,i.fw]
structure HM where
 bls:List (Int × Int)
 wds:List Int
 stw:List (BitVec 64)
 pnw:List (BitVec 64)
 pl:List (Int × Int)
 fw:List (Int × Int)
 births:Int
def CE:List (Int × Int)→List Value
 | []=>[]
 | b::l=>.int .i64 b.1 :: .int .i64 b.2::CE l
def Df (l:List Int):List Value:=l.map fun n=>.int .i64 n
def TK (l:List (Int × Int)):List (Int × Value):=l.map fun p=>(p.1,.int .i64 p.2)
structure Ah (σ:Aa) (i:Cs) (m:HM):Prop where
 hp:σ[i.hb]?=some (.cells [.slice (some ⟨i.bl,0,none⟩) m.bls.length m.bls.length,.slice (some ⟨i.wd,0,none⟩) m.wds.length m.wds.length,.pointer (some ⟨i.st,0,none⟩),.pointer (some ⟨i.pn,0,none⟩),.map (some i.pl),.map (some i.fw),.int .i64 m.births] F6 true)
 bl:σ[i.bl]?=some (.cells (CE m.bls) DP true)
 wd:σ[i.wd]?=some (.cells (Df m.wds) D2 true)
 st:Fl σ i.st i.sw (32*m.bls.length) 1 m.stw
 pn:Fl σ i.pn i.pw (32*m.bls.length) 1 m.pnw
 pl:σ[i.pl]?=some (.map (TK m.pl))
 fw:σ[i.fw]?=some (.map (TK m.fw))
 nb:2≤m.bls.length
 nt:m.bls.length≤64
 wl:m.wds.length=64*m.bls.length
 nd:i.l.Nodup
 wi:∀ a,AW (m.wds.getD a 0)
structure BM (i:Cs) (σ σ':Aa):Prop where
 len:σ.length≤σ'.length
 same:∀ j,j<σ.length→j ∉ i.l→σ'[j]?=σ[j]?
theorem BM.refl (i:Cs) (σ:Aa):BM i σ σ:=⟨Nat.le_refl _,fun _ _ _=>rfl⟩
theorem BM.trans {i:Cs} {a b c:Aa} (h:BM i a b) (g:BM i b c):BM i a c:=
 ⟨Nat.le_trans h.len g.len,fun j h1 h2=>(g.same j (Nat.lt_of_lt_of_le h1 h.len) h2).trans (h.same j h1 h2)⟩
theorem BM.app (i:Cs) (σ τ:Aa):BM i σ (σ++τ):=⟨by simp,fun j h _=>List.getElem?_append_left h⟩
theorem BM.set {i:Cs} {b:Nat} (σ:Aa) (o:Bi) (h:b ∈ i.l):BM i σ (σ.set b o):=
 ⟨by simp,fun j _ h2=>List.getElem?_set_ne (fun e=>h2 (by rw[← e]; exact h))⟩
variable {σ:Aa} {i:Cs} {m:HM}
theorem Ah.lt (h:Ah σ i m):∀ j ∈ i.l,j<σ.length:=by
 intro j hj
 simp only[Cs.l,List.mem_cons,List.not_mem_nil,or_false] at hj
 rcases hj with rfl | rfl | rfl | rfl | rfl | rfl | rfl | rfl | rfl
 ·exact Ae h.hp
 ·exact Ae h.bl
 ·exact Ae h.wd
 ·exact h.st.lt.1
 ·exact h.st.lt.2
 ·exact h.pn.lt.1
 ·exact h.pn.lt.2
 ·exact Ae h.pl
 ·exact Ae h.fw
theorem Ah.CT {σ':Aa} (h:Ah σ i m) (hs:∀ j ∈ i.l,σ'[j]?=σ[j]?):Ah σ' i m where
 hp:=by rw[hs _ (by simp[Cs.l])]; exact h.hp
 bl:=by rw[hs _ (by simp[Cs.l])]; exact h.bl
 wd:=by rw[hs _ (by simp[Cs.l])]; exact h.wd
 st:=h.st.same (hs _ (by simp[Cs.l])) (hs _ (by simp[Cs.l]))
 pn:=h.pn.same (hs _ (by simp[Cs.l])) (hs _ (by simp[Cs.l]))
 pl:=by rw[hs _ (by simp[Cs.l])]; exact h.pl
 fw:=by rw[hs _ (by simp[Cs.l])]; exact h.fw
 nb:=h.nb
 nt:=h.nt
 wl:=h.wl
 nd:=h.nd
 wi:=h.wi
theorem Ah.app (τ:Aa) (h:Ah σ i m):Ah (σ++τ) i m:=h.CT fun j hj=>List.getElem?_append_left (h.lt j hj)
theorem Ah.Sw (h:Ah σ i m):Ew σ i.hb 0=some (some ⟨i.bl,0,none⟩,m.bls.length,m.bls.length):=by simp[Ew,Gy,h.hp,H7]
theorem Ah.N0 (h:Ah σ i m):Ew σ i.hb 1=some (some ⟨i.wd,0,none⟩,m.wds.length,m.wds.length):=by simp[Ew,Gy,h.hp,H7]
theorem Ah.lu (h:Ah σ i m):Js σ i.hb 2=some (some ⟨i.st,0,none⟩):=by simp[Js,Gy,h.hp,XP]
theorem Ah.sE (h:Ah σ i m):Js σ i.hb 3=some (some ⟨i.pn,0,none⟩):=by simp[Js,Gy,h.hp,XP]
theorem Ah.tC (h:Ah σ i m):qg σ i.hb 4=some (some i.pl):=by simp[qg,Gy,h.hp,cW]
theorem Ah.sZ (h:Ah σ i m):Ai .i64 σ i.hb 6=some m.births:=by simp[Ai,Gy,h.hp,BA]
theorem Ah.sd (h:Ah σ i m) {a:Nat} (ha:a<m.wds.length):Ai .i64 σ i.wd a=some (m.wds.getD a 0):=by
 simp[Ai,Gy,h.wd,Df,BA,List.getElem?_eq_getElem ha]
theorem Gh:∀ l:List (Int × Int),(CE l).length=2*l.length
 | []=>rfl
 | b::l=>by simp[CE,Gh l]; omega
theorem Se:∀ (l:List (Int × Int)) (b:Nat),b<l.length→(CE l)[2*b]?=some (.int .i64 (l.getD b (0,0)).1)∧(CE l)[2*b+1]?=some (.int .i64 (l.getD b (0,0)).2)
 | [],b,h=>by simp at h
 | x::l,0,h=>by simp[CE]
 | x::l,b+1,h=>by
   have:=Se l b (by simpa using h)
   have e1:2*(b+1)=2*b+1+1:=by omega
   simp only[CE,e1,List.getElem?_cons_succ,List.getD_cons_succ]
   exact this
theorem Ah.WS (h:Ah σ i m) {b:Nat} (hb:b<m.bls.length):Ai .i64 σ i.bl (b*2)=some (m.bls.getD b (0,0)).1∧Ai .i64 σ i.bl (b*2+1)=some (m.bls.getD b (0,0)).2:=by
 obtain ⟨h1,h2⟩:=Se m.bls b hb
 rw[Nat.mul_comm] at h1 h2
 simp[Ai,Gy,h.bl,BA,h1,h2]
abbrev DW (i:Cs):Option Addr:=some ⟨i.hb,0,none⟩
theorem Ny (k:Nat) (h:Ah σ i m):AJ (k+1) (DW i) σ=some (.bool true,σ):=by
 have:=h.nb
 rw[Pz,NZ]
 simp only[aF,Option.bind_some,Bool.not_false,cond_true,Nat.zero_add,Nat.add_zero,h.Sw]
 simp only[show decide (((m.bls.length:Nat):Int)>0)=true from by simp; omega]
def Start (m:HM) (j:Nat):Prop:=j<32*m.bls.length∧Ge 1 m.stw j=1
instance (m:HM) (j:Nat):Decidable (Start m j):=inferInstanceAs (Decidable (_∧_))
def Qw (m:HM) (a:Int):Bool:=decide (0≤a∧a.toNat % 2=0∧Start m (a.toNat/2))
theorem ra (k:Nat) (h:Ah σ i m) (a:Int) (ha:AW a):G7 (k+4) (DW i) a σ=some (.bool (Qw m a),σ):=by
 rw[Qm,Pj,Ny _ h]
 simp only[Option.bind_some,As,cond_true]
 unfold Qw
 by_cases h0:0≤a
 ·obtain ⟨n,rfl⟩:∃ n:Nat,a=(n:Int):=⟨a.toNat,by omega⟩
  simp only[show decide ((n:Int)≥0)=true from by simp,cond_true]
  rw[if_neg (by decide)]
  simp only[Option.bind_some]
  have t1:(n:Int).tmod 2=((n % 2:Nat):Int):=rfl
  have t2:(n:Int).tdiv 2=((n/2:Nat):Int):=rfl
  rw[t1,t2]
  by_cases h1:n % 2=0
  ·have e1:(((n % 2:Nat):Int) == 0)=true:=by simp; omega
   simp only[e1,cond_true,Nat.zero_add,h.lu,Option.bind_some]
   have e2:Ac ((n/2:Nat):Int)=((n/2:Nat):Int):=Ad (by unfold AW at *; omega)
   rw[if_neg (by decide)]
   simp only[e2,qZ _ h.st,Option.bind_some,Am]
   congr 3
   by_cases h2:n/2<32*m.bls.length
   ·rw[if_pos (by omega)]
    simp[Start,h1,h2]
    rw[Bool.eq_iff_iff]; simp
    rw[show ((n:Int)/2).toNat=n/2 from by omega]; omega
   ·rw[if_neg (by omega)]
    simp[Start,h2]
  ·have e1:(((n % 2:Nat):Int) == 0)=false:=by simp; omega
   simp only[e1,cond_false,Option.bind_some]
   simp[h1]
 ·simp[show decide (a≥0)=false from by simpa using h0,h0]
theorem Ss {a:Int} (h:Qw m a=true):∃ j,a=((2*j:Nat):Int)∧Start m j:=by
 unfold Qw at h
 rw[decide_eq_true_eq] at h
 exact ⟨a.toNat/2,by omega,h.2.2⟩
theorem pY {j:Nat} (h:Start m j):Qw m ((2*j:Nat):Int)=true:=by
 unfold Qw
 rw[decide_eq_true_eq]
 refine ⟨by omega,by omega, ?_⟩
 rw[show (((2*j:Nat):Int)).toNat/2=j from by omega]; exact h
theorem mG (k:Nat) (h:Ah σ i m) (a:Int) (ha:AW a):EP (k+5) (DW i) a σ=some (.int .i64 (if Qw m a then 0 else 4),σ):=by
 rw[NI,LZ,Ny _ h]
 simp only[Option.bind_some,As,Bool.not_true,cond_false,ra _ h a ha]
 cases Qw m a <;> rfl
def PS (n:Int):Nat:=(words (n.tmod 16) ((n.tmod 4096).tdiv 16) (n.tdiv 4096)).toNat
def sz (m:HM) (j:Nat):Nat:=PS (m.wds.getD (2*j+1) 0)
theorem TC (a b c:Int):0≤words a b c∧words a b c≤218:=by
 unfold words
 cases hv:valid a b c with
 | false=>simp
 | true=>
   simp[valid] at hv
   simp only[cond_true]
   omega
theorem gf (n:Int):PS n≤218:=by
 have:=TC (n.tmod 16) ((n.tmod 4096).tdiv 16) (n.tdiv 4096)
 unfold PS; omega
theorem ZN (n:Int):(PS n:Int)=words (n.tmod 16) ((n.tmod 4096).tdiv 16) (n.tdiv 4096):=by
 have:=TC (n.tmod 16) ((n.tmod 4096).tdiv 16) (n.tdiv 4096)
 unfold PS; omega
theorem pf (k:Nat) (n:Int) (hn:AW n) (σ:Aa):∃ τ,Jo (k+1) n σ=some (.agg #[.int .i64 (n.tmod 16),.int .i64 ((n.tmod 4096).tdiv 16),.int .i64 (n.tdiv 4096)],σ++τ):=by
 rw[TH,SS]
 simp only[Ap]
 have e1:Ac ((n.tmod 4096).tdiv 16)=(n.tmod 4096).tdiv 16:=Ad (by unfold AW at *; have:=Int.tmod_lt_of_pos n (show (0:Int)<4096 by decide); have h2:=Int.lt_tmod_of_pos n (show (0:Int)<4096 by decide); rw[show (n.tmod 4096).tdiv 16=(n.tmod 4096).tdiv 16 from rfl]; have:=Int.natAbs_tdiv_le_natAbs (n.tmod 4096) 16; omega)
 have e2:Ac (n.tdiv 4096)=n.tdiv 4096:=Ad (by unfold AW at *; have h3:(n.tdiv 4096).natAbs=n.natAbs/4096:=Int.natAbs_tdiv n 4096; omega)
 rw[if_neg (by decide),if_neg (by decide),if_neg (by decide),if_neg (by decide),e1,e2]
 simp[Ki,VV,AE,Q9]
theorem ZM (k:Nat) (h:Ah σ i m) {j:Nat} (hj:j<32*m.bls.length):∃ τ,BZ (k+3) (DW i) ((2*j:Nat):Int) σ=some (.int .i64 (sz m j:Int),σ++τ):=by
 have hw:=h.wl
 have ht:=h.nt
 have hn:=h.wi (2*j+1)
 obtain ⟨τ,hs⟩:=pf (k+1) (m.wds.getD (2*j+1) 0) hn σ
 obtain ⟨τ',hq⟩:=O5 k ((m.wds.getD (2*j+1) 0).tmod 16) (((m.wds.getD (2*j+1) 0).tmod 4096).tdiv 16) ((m.wds.getD (2*j+1) 0).tdiv 4096) (σ++τ)
 refine ⟨τ++τ', ?_⟩
 have e1:Ac (((2*j:Nat):Int)+1)=((2*j+1:Nat):Int):=Ad (by unfold AW; omega)
 rw[P0,Oa]
 simp only[Option.bind_some,Nat.zero_add,h.N0,e1,Int.toNat_natCast,Nat.mul_one]
 rw[if_pos (by omega)]
 simp only[Option.bind_some,h.sd (show 2*j+1<m.wds.length by omega),hs,nF,hq,Am,List.append_assoc]
 unfold sz
 rw[ZN]
def Rg (m:HM) (n:Nat):Option Nat:=
 match Sv (Ge 1 m.stw) 1 (min (n/2+1) (32*m.bls.length)) with
 | none=>none
 | some j=>if 2*j+sz m j≤n then none else some j
def MH (m:HM) (a:Int):Option Nat:=if 0≤a∧a<(m.wds.length:Int) then Rg m a.toNat else none
theorem pD (k:Nat) (hk:5000≤k) (h:Ah σ i m) (a:Int):∃ τ,FR (k+10) (DW i) a σ =
  some (match MH m a with | some j=>.tuple #[.int .i64 ((2*j:Nat):Int),.int .i64 0] | none=>.tuple #[.int .i64 0,.int .i64 4],σ++τ):=by
 have hw:=h.wl
 have ht:=h.nt
 rw[Pw,NW]
 simp only[Ny _ h,Option.bind_some,As,Bool.not_true,cond_false]
 by_cases h0:0≤a
 rotate_left
 ·refine ⟨[], ?_⟩
  have:¬ (0≤a∧a<(m.wds.length:Int)):=by omega
  simp only[show decide (a<0)=true from by simp; omega,cond_true,Option.bind_some,MH,this,if_false,List.append_nil]
 simp only[show decide (a<0)=false from by simp; omega,cond_false,Nat.zero_add,h.N0,Option.bind_some]
 by_cases h1:a<(m.wds.length:Int)
 rotate_left
 ·refine ⟨[], ?_⟩
  have:¬ (0≤a∧a<(m.wds.length:Int)):=by omega
  simp only[show decide (a≥((m.wds.length:Nat):Int))=true from by simp; omega,cond_true,MH,this,if_false,List.append_nil]
 obtain ⟨n,rfl⟩:∃ n:Nat,a=(n:Int):=⟨a.toNat,by omega⟩
 have t2:(n:Int).tdiv 2=((n/2:Nat):Int):=rfl
 have e1:Ac ((n/2:Nat):Int)=((n/2:Nat):Int):=Ad (by unfold AW; omega)
 have e2:Ac (((n/2:Nat):Int)+1)=((n/2+1:Nat):Int):=Ad (by unfold AW; omega)
 simp only[show decide ((n:Int)≥((m.wds.length:Nat):Int))=false from by simp; omega,cond_false,h.lu,Option.bind_some,t2,e1,e2]
 rw[if_neg (by decide)]
 have hl:=pF (k+6) (by omega) h.st ((n/2+1:Nat):Int) 1
 rw[show ((1:Nat):Int)=1 from rfl,Int.toNat_natCast] at hl
 rw[hl]
 simp only[MH,Rg,show (0≤(n:Int)∧(n:Int)<(m.wds.length:Int)) from ⟨h0,h1⟩,and_self,if_true,Int.toNat_natCast,Option.bind_some]
 cases hq:Sv (Ge 1 m.stw) 1 (min (n/2+1) (32*m.bls.length)) with
 | none=>
   refine ⟨[], ?_⟩
   simp[E6]
 | some j=>
   obtain ⟨q1,q2,_⟩:=Tj hq
   obtain ⟨τ,hs⟩:=ZM (k+6) h (show j<32*m.bls.length by omega)
   refine ⟨τ, ?_⟩
   have e3:Ac (2*(j:Int))=((2*j:Nat):Int):=Ad (by unfold AW; omega)
   have hz:=gf (m.wds.getD (2*j+1) 0)
   have e4:Ac (((2*j:Nat):Int)+(sz m j:Int))=((2*j+sz m j:Nat):Int):=Ad (by unfold AW; unfold sz; omega)
   simp only[E6,bne_self_eq_false,cond_false,e3,hs,Option.bind_some,Am,e4]
   by_cases hc:2*j+sz m j≤n
   ·simp only[show decide ((n:Int)≥((2*j+sz m j:Nat):Int))=true from by simp; omega,cond_true,hc,if_true]
   ·simp only[show decide ((n:Int)≥((2*j+sz m j:Nat):Int))=false from by simp; omega,cond_false,hc,if_false]
def getM (l:List (Int × Int)) (k:Int):Option Int:=(l.find? fun e=>k == e.1).map (·.2)
def EO (m:HM) (b:Nat):Nat→Nat→Nat
 | 0,n=>n
 | f+1,n=>if (m.bls.getD b (0,0)).1=2∧b+n<m.bls.length∧(m.bls.getD (b+n) (0,0)).1=3 then EO m b f (n+1) else n
theorem kC (k:Nat) (h:Ah σ i m) {b:Nat} (hb:b<m.bls.length):∀ (f n:Nat),m.bls.length≤b+n+f→n≤m.bls.length→DO k (f+1) (DW i) (b:Int) (n:Int) σ=some (.exit 0,[.int .i64 (EO m b f n:Int)],σ):=by
 intro f
 have ht:=h.nt
 induction f with
 | zero=>
   intro n hn hn2
   rw[Jn,It]
   simp only[Option.bind_some,Nat.zero_add,Nat.add_zero,h.Sw,Int.toNat_natCast]
   rw[if_pos (by omega)]
   have e1:Ac ((b:Int)+(n:Int))=((b+n:Nat):Int):=Ad (by unfold AW; omega)
   simp only[Option.bind_some,(h.WS hb).1,e1,EO]
   by_cases h2:(m.bls.getD b (0,0)).1=2
   ·have q2:((m.bls.getD b (0,0)).1 == 2)=true:=by simpa using h2
    have q3:decide (((b+n:Nat):Int)<((m.bls.length:Nat):Int))=false:=by simp; omega
    simp only[q2,cond_true,q3,cond_false,Option.bind_some]
   ·have:((m.bls.getD b (0,0)).1 == 2)=false:=by simpa using h2
    simp only[this,cond_false,Option.bind_some]
 | succ f ih=>
   intro n hn hn2
   rw[Jn,It]
   simp only[Option.bind_some,Nat.zero_add,Nat.add_zero,h.Sw,Int.toNat_natCast]
   rw[if_pos (by omega)]
   have e1:Ac ((b:Int)+(n:Int))=((b+n:Nat):Int):=Ad (by unfold AW; omega)
   have e2:Ac ((n:Int)+1)=((n+1:Nat):Int):=Ad (by unfold AW; omega)
   simp only[Option.bind_some,(h.WS hb).1,e1,e2,Int.toNat_natCast]
   by_cases h2:(m.bls.getD b (0,0)).1=2
   ·have q2:((m.bls.getD b (0,0)).1 == 2)=true:=by simpa using h2
    simp only[q2,cond_true,Option.bind_some]
    by_cases h3:b+n<m.bls.length
    ·simp only[show decide (((b+n:Nat):Int)<((m.bls.length:Nat):Int))=true from by simp; omega,cond_true,Option.bind_some,h.Sw]
     rw[if_pos (by omega)]
     simp only[Option.bind_some,Nat.zero_add,Nat.add_zero,(h.WS h3).1]
     by_cases h4:(m.bls.getD (b+n) (0,0)).1=3
     ·have q4:((m.bls.getD (b+n) (0,0)).1 == 3)=true:=by simpa using h4
      simp only[q4,cond_true,Option.bind_some]
      rw[EO,if_pos ⟨h2,h3,h4⟩]
      exact ih (n+1) (by omega) (by omega)
     ·have q4:((m.bls.getD (b+n) (0,0)).1 == 3)=false:=by simpa using h4
      simp only[q4,cond_false,Option.bind_some]
      rw[EO,if_neg (by rintro ⟨_,_,h⟩; exact h4 h)]
    ·simp only[show decide (((b+n:Nat):Int)<((m.bls.length:Nat):Int))=false from by simp; omega,cond_false,Option.bind_some]
     rw[EO,if_neg (by rintro ⟨_,h,_⟩; exact h3 h)]
   ·have q2:((m.bls.getD b (0,0)).1 == 2)=false:=by simpa using h2
    simp only[q2,cond_false,Option.bind_some]
    rw[EO,if_neg (by rintro ⟨h,_⟩; exact h2 h)]
theorem WQ (m:HM) (b:Nat):∀ (f g n:Nat),m.bls.length≤b+n+f→m.bls.length≤b+n+g→EO m b f n=EO m b g n
 | 0,0,n,_,_=>rfl
 | 0,g+1,n,h1,h2=>by
   rw[EO,EO,if_neg (by rintro ⟨_,h,_⟩; omega)]
 | f+1,0,n,h1,h2=>by
   rw[EO,EO,if_neg (by rintro ⟨_,h,_⟩; omega)]
 | f+1,g+1,n,h1,h2=>by
   rw[EO,EO]
   split
   ·exact WQ m b f g (n+1) (by omega) (by omega)
   ·rfl
def Ee (m:HM) (b:Nat):Nat:=EO m b m.bls.length 1
theorem ga (k:Nat) (hk:100≤k) (h:Ah σ i m) {b:Nat} (hb:b<m.bls.length):Db (k+1) (DW i) (b:Int) σ=some (.int .i64 (Ee m b:Int),σ):=by
 have ht:=h.nt
 have hn:=h.nb
 rw[P1,Ob]
 have:=kC k h hb (k-1) 1 (by omega) (by omega)
 rw[show k-1+1=k from by omega] at this
 rw[show (1:Int)=((1:Nat):Int) from rfl,this]
 simp only[Option.bind_some,if_true,D4]
 unfold Ee
 rw[WQ m b (k-1) m.bls.length 1 (by omega) (by omega)]
def LG (m:HM) (hi:Nat) (but:Int):Nat→Nat→Bool
 | 0,_=>true
 | f+1,x=>if x<hi then (match MH m (x:Int) with
   | some o=>if ((2*o:Nat):Int)=but then LG m hi but f (x+2) else false
   | none=>LG m hi but f (x+2)) else true
theorem jK (k:Nat) (hk:5000≤k) (h:Ah σ i m) (a wo:Nat) (but:Int) (ha:a<4096) (hwo:wo≤218):∀ (f x:Nat) (τ:Aa),a+wo≤x+2*f→x≤5000 →
  ∃ τ',CY (k+10) (f+1) (DW i) (a:Int) (wo:Int) but (x:Int) (σ++τ)=some (if LG m (a+wo) but f x then (.exit 0,[],σ++τ') else (.ret,[.int .i64 8],σ++τ')):=by
 intro f
 have e1:Ac ((a:Int)+(wo:Int))=((a+wo:Nat):Int):=Ad (by unfold AW; omega)
 induction f with
 | zero=>
   intro x τ h1 h2
   refine ⟨τ, ?_⟩
   rw[Jm,Is]
   have q:decide ((x:Int)<((a+wo:Nat):Int))=false:=by simp; omega
   simp only[e1,q,cond_false,LG,if_true]
 | succ f ih=>
   intro x τ h1 h2
   rw[Jm,Is]
   by_cases hx:x<a+wo
   ·have q:decide ((x:Int)<((a+wo:Nat):Int))=true:=by simp; omega
    have e2:Ac ((x:Int)+2)=((x+2:Nat):Int):=Ad (by unfold AW; omega)
    obtain ⟨τ1,hF⟩:=pD k hk (h.app τ) (x:Int)
    obtain ⟨τ2,hih⟩:=ih (x+2) (τ++τ1) (by omega) (by omega)
    rw[← List.append_assoc] at hih
    simp only[e1,e2,q,cond_true,hF,Option.bind_some,LG,hx,if_true]
    cases hq:MH m (x:Int) with
    | none=>
      refine ⟨τ2, ?_⟩
      simp only[E6,show ((4:Int) == 0)=false from rfl,cond_false,Option.bind_some]
      exact hih
    | some o=>
      simp only[E6,BEq.rfl,cond_true,Option.bind_some]
      by_cases hb:((2*o:Nat):Int)=but
      ·refine ⟨τ2, ?_⟩
       subst hb
       simp only[bne_self_eq_false,cond_false,if_true]
       exact hih
      ·refine ⟨τ++τ1, ?_⟩
       have:(((2*o:Nat):Int) != but)=true:=by simpa using hb
       simp only[this,cond_true,hb,if_false,List.append_assoc,Bool.false_eq_true]
   ·refine ⟨τ, ?_⟩
    have q:decide ((x:Int)<((a+wo:Nat):Int))=false:=by simp; omega
    simp only[e1,q,cond_false,LG,hx,if_false,if_true]
theorem dq (m:HM) (hi:Nat) (but:Int):∀ (f g x:Nat),hi≤x+2*f→hi≤x+2*g→LG m hi but f x=LG m hi but g x
 | 0,0,_,_,_=>rfl
 | 0,g+1,x,h1,h2=>by rw[LG,LG,if_neg (by omega)]
 | f+1,0,x,h1,h2=>by rw[LG,LG,if_neg (by omega)]
 | f+1,g+1,x,h1,h2=>by
   rw[LG,LG]
   have:=dq m hi but f g (x+2) (by omega) (by omega)
   rw[this]
def Ik (m:HM) (a:Int) (wo:Nat) (but:Int):Int:=
 if ¬ (0≤a∧a<(m.wds.length:Int)∧a.toNat % 2=0) then 1 else
 let b:=a.toNat/64
 if wo≤32 then (if (m.bls.getD b (0,0)).1≠1∨(a.toNat+wo-1)/64≠b then 5 else if LG m (a.toNat+wo) but 200 a.toNat then 0 else 8)
 else if (m.bls.getD b (0,0)).1≠2∨a.toNat % 64≠0∨Ee m b≠(wo+63)/64 then 5 else if LG m (a.toNat+wo) but 200 a.toNat then 0 else 8
theorem pX (k:Nat) (hk:5000≤k) (h:Ah σ i m) (a:Int) (wo:Nat) (but:Int) (h0:2≤wo) (hwo:wo≤218):∃ τ,FT (k+11) (DW i) a (wo:Int) but σ=some (.int .i64 (Ik m a wo but),σ++τ):=by
 have hw:=h.wl
 have ht:=h.nt
 rw[Py,NY]
 simp only[Option.bind_some,Nat.zero_add,h.Sw,h.N0]
 by_cases g0:0≤a
 rotate_left
 ·refine ⟨[], ?_⟩
  simp only[show decide (a<0)=true from by simp; omega,cond_true,Option.bind_some,Ik,show ¬ (0≤a∧a<(m.wds.length:Int)∧a.toNat % 2=0) from by omega,not_false_eq_true,if_true,List.append_nil]
 by_cases g1:a<(m.wds.length:Int)
 rotate_left
 ·refine ⟨[], ?_⟩
  simp only[show decide (a<0)=false from by simp; omega,cond_false,show decide (a≥((m.wds.length:Nat):Int))=true from by simp; omega,cond_true,Option.bind_some,Ik,show ¬ (0≤a∧a<(m.wds.length:Int)∧a.toNat % 2=0) from by omega,not_false_eq_true,if_true,List.append_nil]
 obtain ⟨n,rfl⟩:∃ n:Nat,a=(n:Int):=⟨a.toNat,by omega⟩
 have t1:(n:Int).tmod 2=((n % 2:Nat):Int):=rfl
 have t2:(n:Int).tdiv 64=((n/64:Nat):Int):=rfl
 have t3:(n:Int).tmod 64=((n % 64:Nat):Int):=rfl
 have e1:Ac ((n/64:Nat):Int)=((n/64:Nat):Int):=Ad (by unfold AW; omega)
 have e2:Ac ((n:Int)+(wo:Int))=((n+wo:Nat):Int):=Ad (by unfold AW; omega)
 have e3:Ac (((n+wo:Nat):Int)-1)=((n+wo-1:Nat):Int):=by rw[Ad (by unfold AW; omega)]; omega
 have t4:(((n+wo-1:Nat):Int)).tdiv 64=(((n+wo-1)/64:Nat):Int):=rfl
 have e4:Ac (((n+wo-1)/64:Nat):Int)=(((n+wo-1)/64:Nat):Int):=Ad (by unfold AW; omega)
 have e5:Ac ((wo:Int)+64)=((wo+64:Nat):Int):=Ad (by unfold AW; omega)
 have e6:Ac (((wo+64:Nat):Int)-1)=((wo+63:Nat):Int):=by rw[Ad (by unfold AW; omega)]; omega
 have t5:((wo+63:Nat):Int).tdiv 64=(((wo+63)/64:Nat):Int):=rfl
 have e7:Ac (((wo+63)/64:Nat):Int)=(((wo+63)/64:Nat):Int):=Ad (by unfold AW; omega)
 simp only[show decide ((n:Int)<0)=false from by simp,cond_false,show decide ((n:Int)≥((m.wds.length:Nat):Int))=false from by simp; omega,Option.bind_some,t1,t2,t3,e1,e2,e3,t4,e4,e5,e6,t5,e7]
 rw[if_neg (by decide)]
 simp only[Option.bind_some]
 by_cases g2:n % 2=0
 rotate_left
 ·refine ⟨[], ?_⟩
  have q:(((n % 2:Nat):Int) != 0)=true:=by simp; omega
  simp only[q,cond_true,Ik,show ¬ (0≤(n:Int)∧(n:Int)<(m.wds.length:Int)∧(n:Int).toNat % 2=0) from by omega,not_false_eq_true,if_true,List.append_nil]
 have q:(((n % 2:Nat):Int) != 0)=false:=by simp; omega
 have hb:n/64<m.bls.length:=by omega
 obtain ⟨τ,hl⟩:=jK k hk h n wo but (by omega) hwo (k+9) n [] (by omega) (by omega)
 have hm:LG m (n+wo) but (k+9) n=LG m (n+wo) but 200 n:=dq m _ but _ _ n (by omega) (by omega)
 rw[List.append_nil,hm] at hl
 have hgood:(¬ (0≤(n:Int)∧(n:Int)<(m.wds.length:Int)∧(n:Int).toNat % 2=0))=False:=eq_false (by omega)
 simp only[q,cond_false,Ik,hgood,if_false]
 simp only[Int.toNat_natCast]
 have tail:∀ (c:Bool),∃ τ',(if (Bm.normal:Bm) = .normal then (CY (k+10) (k+10) (DW i) (n:Int) (wo:Int) but (n:Int) σ).bind fun r23=>if r23.1 = .exit 0 then some (Value.int .i64 (0:Int),r23.2.2) else if r23.1 = .ret then SH r23.2.1 fun n24=>some (.int .i64 n24,r23.2.2) else none else none)=some (.int .i64 (if LG m (n+wo) but 200 n=true then 0 else 8),σ++τ'):=by
  intro c
  refine ⟨τ, ?_⟩
  rw[hl]
  cases LG m (n+wo) but 200 n <;> simp[D4]
 obtain ⟨τt,ht'⟩:=tail true
 simp only[if_true] at ht'
 have c64:((64:Int)=0)=False:=by simp
 have c1:(0≤((n/64:Nat):Int)∧((n/64:Nat):Int)<((m.bls.length:Nat):Int))=True:=eq_true (by omega)
 by_cases g3:wo≤32
 ·have q3:decide ((wo:Int)≤32)=true:=by simp; omega
  simp only[c64,if_false,q3,cond_true,g3,if_true,c1,Option.bind_some,Nat.zero_add,Nat.add_zero,Int.toNat_natCast,(h.WS hb).1,h.Sw]
  by_cases g4:(m.bls.getD (n/64) (0,0)).1=1
  ·simp only[g4,bne_self_eq_false,cond_false,ne_eq,not_true_eq_false,false_or,Option.bind_some]
   by_cases g5:(n+wo-1)/64=n/64
   ·simp only[g5,bne_self_eq_false,cond_false,Option.bind_some,if_true,not_true_eq_false,if_false]
    exact ⟨τt,ht'⟩
   ·have q5:((((n+wo-1)/64:Nat):Int) != ((n/64:Nat):Int))=true:=by simp; omega
    simp only[q5,cond_true,g5,not_false_eq_true,if_true,Option.bind_some]
    exact ⟨[],by simp[D4]⟩
  ·have q4:((m.bls.getD (n/64) (0,0)).1 != 1)=true:=bne_iff_ne.2 g4
   simp only[q4,cond_true,ne_eq,g4,not_false_eq_true,true_or,if_true,Option.bind_some]
   exact ⟨[],by simp[D4]⟩
 ·have q3:decide ((wo:Int)≤32)=false:=by simp; omega
  simp only[c64,if_false,q3,cond_false,g3,if_true,c1,Option.bind_some,Nat.zero_add,Nat.add_zero,Int.toNat_natCast,(h.WS hb).1,h.Sw]
  by_cases g4:(m.bls.getD (n/64) (0,0)).1=2
  ·simp only[g4,bne_self_eq_false,cond_false,ne_eq,not_true_eq_false,false_or,Option.bind_some]
   by_cases g5:n % 64=0
   ·have q5:(((n % 64:Nat):Int) != 0)=false:=by simp; omega
    simp only[q5,cond_false,ga (k+9) (by omega) h hb,Option.bind_some,Am]
    simp only[g5,not_true_eq_false,false_or]
    by_cases g6:Ee m (n/64)=(wo+63)/64
    ·simp only[g6,bne_self_eq_false,cond_false,Option.bind_some,if_true,not_true_eq_false,if_false]
     exact ⟨τt,ht'⟩
    ·have q6:((Ee m (n/64):Int) != (((wo+63)/64:Nat):Int))=true:=by simp; omega
     simp only[q6,cond_true,g6,not_false_eq_true,if_true,Option.bind_some]
     exact ⟨[],by simp[D4]⟩
   ·have q5:(((n % 64:Nat):Int) != 0)=true:=by simp; omega
    simp only[q5,cond_true,g5,not_false_eq_true,true_or,if_true,Option.bind_some]
    exact ⟨[],by simp[D4]⟩
  ·have q4:((m.bls.getD (n/64) (0,0)).1 != 2)=true:=bne_iff_ne.2 g4
   simp only[q4,cond_true,ne_eq,g4,not_false_eq_true,true_or,if_true,Option.bind_some]
   exact ⟨[],by simp[D4]⟩
end Go.Proofs.YtlaplcglpnlieaaGreat
end
section
namespace Go.Proofs.YtlaplcglpnlieaaGreat
open Go Go.AX
noncomputable local instance vd:AF:=Au
local instance tS:Kn:=⟨true⟩
theorem tI:IW P B9=some 1:=by kernel_rfl
theorem tB:bytesOf P B9=some 8:=by kernel_rfl
theorem tJ:GL P B9=some (.int .i64 0):=by kernel_rfl
def Du (lo:Nat) (σ:Aa) (s:E8) (l:List Int):Prop:=
 (l=[]∧s=(none,0,0)) ∨ ∃ b,lo≤b∧s=(some ⟨b,0,none⟩,l.length,l.length)∧l≠[]∧σ[b]?=some (.cells (Df l) B9 true)
theorem Jr (l:List Int):(Df l).length=l.length:=by simp[Df]
theorem Xu (l l':List Int):Df (l++l')=Df l++Df l':=by simp[Df]
theorem Du.app {lo:Nat} {σ:Aa} {s:E8} {l:List Int} (τ:Aa) (h:Du lo σ s l):Du lo (σ++τ) s l:=by
 rcases h with h | ⟨b,h1,h2,h3,h4⟩
 ·exact .inl h
 ·exact .inr ⟨b,h1,h2,h3,by rw[List.getElem?_append_left (Ae h4),h4]⟩
theorem Du.ld {lo:Nat} {σ:Aa} {b c c':Nat} {l:List Int} (h:Du lo σ (some ⟨b,0,none⟩,c,c') l) {j:Nat} (hj:j<l.length):Ai .i64 σ b j=some (l.getD j 0):=by
 rcases h with ⟨_,h⟩ | ⟨b',_,h2,_,h4⟩
 ·cases h
 ·cases h2
  simp[Ai,Gy,h4,Df,BA,List.getElem?_eq_getElem hj]
theorem Du.len {lo:Nat} {σ:Aa} {s:E8} {l:List Int} (h:Du lo σ s l):s.2.1=l.length:=by
 rcases h with ⟨rfl,rfl⟩ | ⟨b',_,rfl,_,_⟩ <;> rfl
theorem lT (σ τ:Aa) (s:E8) (l:List Int) (x:Int) (h:Nat) (hl:l.length≤10000) (hs:Du σ.length (σ++τ) s l) (hx:∃ T rw,(σ++τ)[h]?=some (.cells [.int .i64 x] T rw)):
  ∃ s' τ',Bv P B9 s (some ⟨h,0,none⟩,1,1) (σ++τ)=some (s',σ++τ')∧Du σ.length (σ++τ') s' (l++[x]):=by
 obtain ⟨T,rw',hx⟩:=hx
 have hf:GI (σ++τ) 1 (some ⟨h,0,none⟩) 1=some [.int .i64 x]:=by simp[GI,VV,hx]
 unfold Bv Vg
 simp only[tI,tB,tJ,Option.bind_some,hf]
 have hz:(¬ (J5 (.int .i64 0)=false∧some 1=some (Value.cells (.int .i64 0)).size∧0<(Value.cells (.int .i64 0)).size))=False:=by simp[J5,Value.cells]
 simp only[hz,if_false]
 rcases hs with ⟨rfl,rfl⟩ | ⟨b,hb,rfl,hne,hcell⟩
 ·have r:Tu (0+1) 8∧0<8:=by unfold Tu; decide
  simp only[show ¬ (0+1≤0) from by decide,if_false,r,and_self,if_true,Mg,cond_true,qX]
  refine ⟨_,τ++[.cells [.int .i64 x] B9 true],by rw[← List.append_assoc]; rfl,.inr ⟨(σ++τ).length,by simp,rfl,by simp, ?_⟩⟩
  rw[← List.append_assoc]; simp[Df]
 ·have r:Tu (l.length+1) 8∧0<8:=by
   unfold Tu
   refine ⟨⟨?_, ?_⟩,by decide⟩ <;> omega
  have hb2:=Ae hcell
  have e1:elemAt (σ++τ) b=some 3:=by simp[elemAt,hcell]
  have e2:VV (σ++τ) b 0 (l.length*1)=some (Df l):=by
   simp only[VV,hcell,Jr,Nat.mul_one,Nat.zero_add,Nat.le_refl,if_true,List.drop_zero]
   rw[List.take_of_length_le (by rw[Jr]; exact Nat.le_refl _)]
  have e3:KW (σ++τ) b=true:=by simp[KW,hcell]
  simp only[show ¬ (l.length+1≤l.length) from by omega,if_false,r,and_self,if_true,Mg,Option.isSome_none,cond_false,Option.bind_some,e1,e2,e3,cond_true,qX]
  have hset:(σ++τ).set b .dead=σ++τ.set (b-σ.length) .dead:=by
   rw[List.set_append_right _ _ hb]
  refine ⟨_,τ.set (b-σ.length) .dead++[.cells (Df l++[.int .i64 x]) B9 true],by rw[hset,← List.append_assoc],.inr ⟨(σ++τ).length,by simp,by simp,by simp, ?_⟩⟩
  rw[← List.append_assoc,Xu]
  have:(σ++τ).length=(σ++τ.set (b-σ.length) .dead).length:=by simp
  rw[this]; simp[Df]
variable {σ:Aa} {i:Cs} {m:HM}
def Rk (m:HM) (hi:Nat):Nat→Nat→List Int
 | 0,_=>[]
 | f+1,j=>match Sz (Ge 1 m.stw) (32*m.bls.length) 1 j with
   | none=>[]
   | some j'=>if 2*j'<hi then ((2*j':Nat):Int)::Rk m hi f (j'+1) else []
theorem VR (k:Nat) (hk:5000≤k) (h:Ah σ i m) (hi:Nat):∀ (f:Nat) (n5:Option Nat) (τ:Aa) (s:E8) (l:List Int),(match n5 with | none=>True | some j=>l.length≤j)→Du σ.length (σ++τ) s l→(∀ j,n5=some j→j<32*m.bls.length) →
  (match n5 with | none=>0 | some j=>32*m.bls.length-j)<f+1 →
  ∃ τ' s',BO (k+4) (f+1) (DW i) (hi:Int) s (match n5 with | none=>0 | some j=>(j:Int)) (match n5 with | none=>4 | some j=>0) (σ++τ)=some (.exit 0,[.slice s'.1 s'.2.1 s'.2.2],σ++τ') ∧
   Du σ.length (σ++τ') s' (l++(match n5 with | none=>[] | some j=>if 2*j<hi then ((2*j:Nat):Int)::Rk m hi f (j+1) else [])):=by
 have ht:=h.nt
 intro f
 induction f with
 | zero=>
   intro n5 τ s l hl hs hj hf
   cases n5 with
   | none=>
     refine ⟨τ,s, ?_,by simpa using hs⟩
     rw[FH,Fq]
     rfl
   | some j=>
     have:=hj j rfl
     simp only at hf
     omega
 | succ f ih=>
   intro n5 τ s l hl hs hj hf
   cases n5 with
   | none=>
     refine ⟨τ,s, ?_,by simpa using hs⟩
     rw[FH,Fq]
     rfl
   | some j=>
     have hjl:=hj j rfl
     obtain ⟨sa,sl,sc⟩:=s
     have e1:Ac (2*(j:Int))=((2*j:Nat):Int):=Ad (by unfold AW; omega)
     have e2:Ac ((j:Int)+1)=((j+1:Nat):Int):=Ad (by unfold AW; omega)
     rw[FH,Fq]
     simp only[BEq.rfl,cond_true,e1,e2,Option.bind_some]
     by_cases hlt:2*j<hi
     ·have q:decide (((2*j:Nat):Int)<(hi:Int))=true:=by simp; omega
      obtain ⟨s1,τ1,ha,hs1⟩:=lT σ (τ++[.cells [.int .i64 ((2*j:Nat):Int)] B9 true]) (sa,sl,sc) l ((2*j:Nat):Int) (σ++τ).length (by simp only at hl; omega) (by rw[← List.append_assoc]; exact hs.app _) ⟨3,true,by rw[← List.append_assoc]; simp⟩
      rw[← List.append_assoc] at ha
      have hn:=kN (k+1) (by omega) (h.app τ1).st ((j+1:Nat):Int) 1 (by omega)
      rw[Int.toNat_natCast] at hn
      have hn':CJ (k+4) (some ⟨i.st,0,none⟩) ((j+1:Nat):Int) 1 (σ++τ1)=_:=hn
      simp only[q,cond_true,Ap,ha,Option.bind_some,Nat.zero_add,(h.app τ1).lu,hn',hlt,if_true]
      cases hq:Sz (Ge 1 m.stw) (32*m.bls.length) 1 (j+1) with
      | none=>
        obtain ⟨τ',s',g1,g2⟩:=ih none τ1 s1 (l++[((2*j:Nat):Int)]) trivial hs1 (fun _ h=>by cases h) (by simp)
        refine ⟨τ',s', ?_, ?_⟩
        ·simp only[E6]; exact g1
        ·rw[Rk,hq]; simpa using g2
      | some j'=>
        obtain ⟨p1,p2,_,_⟩:=Tm hq
        obtain ⟨τ',s',g1,g2⟩:=ih (some j') τ1 s1 (l++[((2*j:Nat):Int)]) (by simp only[List.length_append,List.length_cons,List.length_nil] at hl ⊢; omega) hs1 (fun _ h=>by cases h; exact p2) (by simp only at hf ⊢; omega)
        refine ⟨τ',s', ?_, ?_⟩
        ·simp only[E6]; exact g1
        ·rw[Rk,hq]; simpa using g2
     ·have q:decide (((2*j:Nat):Int)<(hi:Int))=false:=by simp; omega
      refine ⟨τ,(sa,sl,sc), ?_,by simpa [hlt] using hs⟩
      simp only[q,cond_false]
def Cf (m:HM) (lo n:Nat):List Nat:=(List.range' lo n).filter fun j=>decide (Ge 1 m.stw j=1)
def EE (l:List Nat):List Int:=l.map fun j=>((2*j:Nat):Int)
theorem bt (m:HM) (H:Nat) (hH:H≤32*m.bls.length):∀ (n f j:Nat),j+n=H→32*m.bls.length-j≤f→Rk m (2*H) f j=EE (Cf m j n)
 | 0,0,j,h1,h2=>rfl
 | 0,f+1,j,h1,h2=>by
   rw[Rk]
   cases hq:Sz (Ge 1 m.stw) (32*m.bls.length) 1 j with
   | none=>rfl
   | some j'=>
     obtain ⟨p1,_⟩:=Tm hq
     simp only[show ¬ 2*j'<2*H from by omega,if_false]
     rfl
 | n+1,0,j,h1,h2=>by omega
 | n+1,f+1,j,h1,h2=>by
   have hj:j<32*m.bls.length:=by omega
   unfold Cf
   rw[List.range'_succ,List.filter_cons]
   by_cases hg:Ge 1 m.stw j=1
   ·rw[Rk,Sz,dif_pos hj,if_pos hg]
    simp only[show 2*j<2*H from by omega,if_true,hg,decide_true]
    rw[bt m H hH n f (j+1) (by omega) (by omega)]
    rfl
   ·have e1:Rk m (2*H) (f+1) j=Rk m (2*H) (f+1) (j+1):=by
     rw[Rk,Rk,Sz,dif_pos hj,if_neg hg]
    rw[e1,bt m H hH n (f+1) (j+1) (by omega) (by omega)]
    simp only[hg,decide_false,Bool.false_eq_true,if_false]
    rfl
theorem j6 (k:Nat) (hk:5000≤k) (h:Ah σ i m) (lo n:Nat) (hn:lo+n≤32*m.bls.length):∃ τ s,EA (k+5) (DW i) ((2*lo:Nat):Int) ((2*(lo+n):Nat):Int) σ=some (.slice s.1 s.2.1 s.2.2,σ++τ)∧Du σ.length (σ++τ) s (EE (Cf m lo n)):=by
 have ht:=h.nt
 have t1:((2*lo:Nat):Int).tdiv 2=(lo:Int):=by
  rw[show ((2*lo:Nat):Int).tdiv 2=(((2*lo)/2:Nat):Int) from rfl]; omega
 have e1:Ac (lo:Int)=(lo:Int):=Ad (by unfold AW; omega)
 have hN:=kN (k+1) (by omega) h.st (lo:Int) 1 (by omega)
 rw[Int.toNat_natCast] at hN
 have hN':CJ (k+4) (some ⟨i.st,0,none⟩) (lo:Int) 1 σ=_:=hN
 rw[Nq,Ll]
 simp only[Option.bind_some,Nat.zero_add,h.lu,t1,e1,show ((2:Int)=0)=False from by simp,if_false,hN']
 have hlist:Rk m (2*(lo+n)) (k+4) lo=EE (Cf m lo n):=bt m (lo+n) hn n (k+4) lo rfl (by omega)
 cases hq:Sz (Ge 1 m.stw) (32*m.bls.length) 1 lo with
 | none=>
   obtain ⟨τ',s',g1,g2⟩:=VR k hk h (2*(lo+n)) (k+3) none [] (none,0,0) [] trivial (.inl ⟨rfl,rfl⟩) (fun _ h=>by cases h) (by simp)
   rw[List.append_nil] at g1
   refine ⟨τ',s', ?_, ?_⟩
   ·simp only[E6]
    rw[show BO (k+4) (k+4) (DW i) ((2*(lo+n):Nat):Int) (none,0,0) 0 4 σ=_ from g1]
    simp only[Option.bind_some,if_true,F7]
   ·rw[← hlist,Rk,hq]; simpa using g2
 | some j=>
   obtain ⟨p1,p2,_,_⟩:=Tm hq
   obtain ⟨τ',s',g1,g2⟩:=VR k hk h (2*(lo+n)) (k+3) (some j) [] (none,0,0) [] (by simp) (.inl ⟨rfl,rfl⟩) (fun _ h=>by cases h; exact p2) (by simp only; omega)
   rw[List.append_nil] at g1
   refine ⟨τ',s', ?_, ?_⟩
   ·simp only[E6]
    rw[show BO (k+4) (k+4) (DW i) ((2*(lo+n):Nat):Int) (none,0,0) (j:Int) 0 σ=_ from g1]
    simp only[Option.bind_some,if_true,F7]
   ·rw[← hlist,Rk,hq]; simpa using g2
theorem Wk (k:Nat) (hk:5000≤k) (h:Ah σ i m) {b:Nat} (hb:b<m.bls.length):∃ τ s,Ck (k+6) (DW i) (b:Int) σ=some (.slice s.1 s.2.1 s.2.2,σ++τ)∧Du σ.length (σ++τ) s (EE (Cf m (32*b) 32)):=by
 have ht:=h.nt
 obtain ⟨τ,s,g1,g2⟩:=j6 k hk h (32*b) 32 (by omega)
 refine ⟨τ,s, ?_,g2⟩
 have e1:Ac ((b:Int)*64)=((2*(32*b):Nat):Int):=by rw[Ad (by unfold AW; omega)]; omega
 have e2:Ac ((b:Int)+1)=((b+1:Nat):Int):=Ad (by unfold AW; omega)
 have e3:Ac (((b+1:Nat):Int)*64)=((2*(32*b+32):Nat):Int):=by rw[Ad (by unfold AW; omega)]; omega
 rw[Np,Lk]
 have q1:decide ((b:Int)<0)=false:=by simp
 have q2:decide ((b:Int)≥((m.bls.length:Nat):Int))=false:=by simp; omega
 simp only[Ny _ h,Option.bind_some,As,Bool.not_true,cond_false,q1,Nat.zero_add,h.Sw,q2,e1,e2,e3,g1,H7]
end Go.Proofs.YtlaplcglpnlieaaGreat
end
section
namespace Go.Proofs.YtlaplcglpnlieaaGreat
open Go Go.AX
def num (r d k:Int):Int:=r+16*d+4096*k
theorem MM {r d k:Int} (h:valid r d k=true):(num r d k).tmod 16=r∧((num r d k).tmod 4096).tdiv 16=d∧(num r d k).tdiv 4096=k∧AW (num r d k):=by
 simp[valid] at h
 unfold num AW
 have h0:0≤r+16*d+4096*k:=by omega
 rw[Int.tmod_eq_emod_of_nonneg h0,Int.tmod_eq_emod_of_nonneg h0,Int.tdiv_eq_ediv_of_nonneg h0,Int.tdiv_eq_ediv_of_nonneg (by omega)]
 omega
theorem O9 {r d k:Int} (h:valid r d k=true):PS (num r d k)=((2+r+d+1)/2*2).toNat:=by
 obtain ⟨h1,h2,h3,_⟩:=MM h
 unfold PS words
 rw[h1,h2,h3,h]; rfl
def BV (m:HM) (j:Nat):Int:=(m.wds.getD (2*j+1) 0).tmod 16
def E5 (m:HM) (j:Nat):Int:=((m.wds.getD (2*j+1) 0).tmod 4096).tdiv 16
def QD (k v:Int):List (Int × Int)→List (Int × Int)
 | []=>[(k,v)]
 | e::es=>if k == e.1 then (k,v)::es else e::QD k v es
def Yp (k:Int):List (Int × Int)→List (Int × Int)
 | []=>[]
 | e::es=>if k == e.1 then es else e::Yp k es
theorem dH (k v:Int):∀ l,Ol k (.int .i64 v) (TK l)=TK (QD k v l)
 | []=>rfl
 | e::es=>by
   have:=dH k v es
   simp only[TK,List.map_cons,Ol,QD] at this ⊢
   split
   ·rfl
   ·rw[this]; rfl
theorem dG (k:Int):∀ l,Mm k (TK l)=TK (Yp k l)
 | []=>rfl
 | e::es=>by
   have:=dG k es
   simp only[TK,List.map_cons,Mm,Yp] at this ⊢
   split
   ·rfl
   ·rw[this]; rfl
theorem Qv (k v k':Int):∀ l,getM (QD k v l) k'=if k'=k then some v else getM l k'
 | []=>by simp[getM,QD]
 | e::es=>by
   have ih:=Qv k v k' es
   unfold QD
   by_cases h:k=e.1
   ·have hb:(k == e.1)=true:=by simpa using h
    simp only[hb,if_true,getM,List.find?_cons]
    by_cases hk:k'=k
    ·simp[hk]
    ·have h1:(k' == k)=false:=by simpa using hk
     have h2:(k' == e.1)=false:=by rw[← h]; exact h1
     simp[h1,h2,hk]
   ·have hb:(k == e.1)=false:=by simpa using h
    simp only[hb,Bool.false_eq_true,if_false,getM,List.find?_cons] at ih ⊢
    by_cases hk:k'=e.1
    ·have h1:(k' == e.1)=true:=by simpa using hk
     have h2:¬ k'=k:=by rw[hk]; exact fun e=>h e.symm
     simp[h1,h2]
    ·have h1:(k' == e.1)=false:=by simpa using hk
     simp only[h1]
     exact ih
def TO:List (Int × Int)→Prop
 | []=>True
 | e::es=>getM es e.1=none∧TO es
theorem UR (k v:Int):∀ l,TO l→TO (QD k v l)
 | [],_=>⟨rfl,trivial⟩
 | e::es,h=>by
   unfold QD
   by_cases hk:k=e.1
   ·have hb:(k == e.1)=true:=by simpa using hk
    simp only[hb,if_true]
    exact ⟨by simp only; rw[hk]; exact h.1,h.2⟩
   ·have hb:(k == e.1)=false:=by simpa using hk
    simp only[hb,Bool.false_eq_true,if_false]
    refine ⟨?_,UR k v es h.2⟩
    rw[Qv,if_neg (fun e=>hk e.symm)]
    exact h.1
theorem UD (k k':Int):∀ l,TO l→getM (Yp k l) k'=if k'=k then none else getM l k'
 | [],_=>by simp[getM,Yp]
 | e::es,h=>by
   have ih:=UD k k' es h.2
   unfold Yp
   by_cases hk:k=e.1
   ·have hb:(k == e.1)=true:=by simpa using hk
    simp only[hb,if_true]
    by_cases hq:k'=k
    ·rw[if_pos hq,hq,hk]; exact h.1
    ·have h2:(k' == e.1)=false:=by rw[← hk]; simpa using hq
     rw[if_neg hq]
     simp only[getM,List.find?_cons,h2]
   ·have hb:(k == e.1)=false:=by simpa using hk
    simp only[hb,Bool.false_eq_true,if_false,getM,List.find?_cons] at ih ⊢
    by_cases hq:k'=e.1
    ·have h1:(k' == e.1)=true:=by simpa using hq
     have h2:¬ k'=k:=by rw[hq]; exact fun e=>hk e.symm
     simp[h1,h2]
    ·have h1:(k' == e.1)=false:=by simpa using hq
     simp only[h1]
     exact ih
theorem ij (k:Int):∀ l,TO l→TO (Yp k l)
 | [],_=>trivial
 | e::es,h=>by
   unfold Yp
   by_cases hk:k=e.1
   ·have hb:(k == e.1)=true:=by simpa using hk
    simp only[hb,if_true]
    exact h.2
   ·have hb:(k == e.1)=false:=by simpa using hk
    simp only[hb,Bool.false_eq_true,if_false]
    refine ⟨?_,ij k es h.2⟩
    rw[UD k _ es h.2,if_neg (fun e=>hk e.symm)]
    exact h.1
structure Inv (m:HM):Prop where
 good:∀ j,Start m j → ∃ r d k,valid r d k=true∧m.wds.getD (2*j+1) 0=num r d k
 fit:∀ j,Start m j→2*j+sz m j≤m.wds.length
 apart:∀ j j',Start m j→Start m j'→j<j'→2*j+sz m j≤2*j'
 idn:∀ j,Start m j→1≤m.wds.getD (2*j) 0∧m.wds.getD (2*j) 0≤m.births∧getM m.pl (m.wds.getD (2*j) 0)=some ((2*j:Nat):Int)
 plc:∀ id a,getM m.pl id=some a → ∃ j,a=((2*j:Nat):Int)∧Start m j∧m.wds.getD (2*j) 0=id
 brt:0≤m.births
 onc:TO m.pl
variable {m:HM}
theorem Inv.size (h:Inv m) {j:Nat} (hs:Start m j):2≤sz m j∧sz m j≤218∧sz m j % 2=0∧0≤BV m j∧0≤E5 m j∧2+BV m j+E5 m j≤(sz m j:Int):=by
 obtain ⟨r,d,k,hv,hn⟩:=h.good j hs
 have h1:=O9 hv
 obtain ⟨p1,p2,_,_⟩:=MM hv
 unfold BV E5 sz
 rw[hn,h1,p1,p2]
 simp[valid] at hv
 omega
theorem Inv.PN (h:Inv m) {n j:Nat} (hs:Start m j) (h1:2*j≤n) (h2:n<2*j+sz m j):Rg m n=some j:=by
 unfold Rg
 have hj:=hs.1
 cases hq:Sv (Ge 1 m.stw) 1 (min (n/2+1) (32*m.bls.length)) with
 | none=>exact absurd hs.2 (bh hq j (by omega))
 | some j'=>
   obtain ⟨p1,p2,p3⟩:=Tj hq
   have hs':Start m j':=⟨by omega,p2⟩
   have:j'=j:=by
    rcases Nat.lt_trichotomy j' j with hlt | rfl | hlt
    ·exact absurd hs.2 (p3 j hlt (by omega))
    ·rfl
    ·have:=h.apart j j' hs hs' hlt
     omega
   subst this
   simp only[show ¬ 2*j'+sz m j'≤n from by omega,if_false]
theorem Qu {n j:Nat} (h:Rg m n=some j):Start m j∧2*j≤n+1∧n<2*j+sz m j∧2*j≤n:=by
 unfold Rg at h
 split at h
 ·cases h
 ·rename_i j' hq
  split at h
  ·cases h
  ·cases h
   obtain ⟨p1,p2,p3⟩:=Tj hq
   exact ⟨⟨by omega,p2⟩,by omega,by omega,by omega⟩
theorem Vj {hi:Nat} {but:Int}:∀ {f x:Nat},LG m hi but f x=true→hi≤x+2*f → ∀ t,x+2*t<hi → ∀ o,MH m ((x+2*t:Nat):Int)=some o→((2*o:Nat):Int)=but
 | 0,x,_,hf,t,ht=>by omega
 | f+1,x,h,hf,t,ht=>by
   intro o ho
   rw[LG,if_pos (by omega)] at h
   cases t with
   | zero=>
     rw[show x+2*0=x from by omega] at ho
     rw[ho] at h
     simp only at h
     split at h
     ·assumption
     ·cases h
   | succ t=>
     have h':LG m hi but f (x+2)=true:=by
      split at h
      ·split at h
       ·exact h
       ·cases h
      ·exact h
     exact Vj h' (by omega) t (by omega) o (by rw[show x+2+2*t=x+2*(t+1) from by omega]; exact ho)
theorem cf (m:HM) (b:Nat):∀ (f n:Nat),b+n≤m.bls.length→b+EO m b f n≤m.bls.length
 | 0,n,h=>h
 | f+1,n,h=>by
   rw[EO]
   split
   ·rename_i hc
    exact cf m b f (n+1) (by omega)
   ·exact h
theorem Inv.fits (h:Inv m) (hw:m.wds.length=64*m.bls.length) {a:Int} {wo:Nat} {but:Int} (hwo:wo≤218) (h2:2≤wo) (hf:Ik m a wo but=0):
  ∃ j,a=((2*j:Nat):Int)∧j<32*m.bls.length∧2*j+wo≤m.wds.length ∧ ∀ o,Start m o→((2*o:Nat):Int)≠but→2*o+sz m o≤2*j∨2*j+wo≤2*o:=by
 unfold Ik at hf
 split at hf
 ·cases hf
 rename_i h0
 have h0':0≤a∧a<(m.wds.length:Int)∧a.toNat % 2=0:=Classical.not_not.1 h0
 obtain ⟨n,rfl⟩:∃ n:Nat,a=(n:Int):=⟨a.toNat,by omega⟩
 rw[Int.toNat_natCast] at hf h0'
 have hcore:LG m (n+wo) but 200 n=true∧n+wo≤m.wds.length:=by
  simp only at hf
  split at hf
  ·split at hf
   ·cases hf
   ·rename_i hc
    split at hf
    ·rename_i hl
     refine ⟨hl, ?_⟩
     have:(n+wo-1)/64=n/64:=by
      apply Classical.byContradiction
      intro hq; exact hc (.inr hq)
     omega
    ·cases hf
  ·split at hf
   ·cases hf
   ·rename_i hc
    split at hf
    ·rename_i hl
     refine ⟨hl, ?_⟩
     have h1:n % 64=0:=by
      apply Classical.byContradiction
      intro hq; exact hc (.inr (.inl hq))
     have h2:Ee m (n/64)=(wo+63)/64:=by
      apply Classical.byContradiction
      intro hq; exact hc (.inr (.inr hq))
     have h3:=cf m (n/64) m.bls.length 1 (by omega)
     rw[show EO m (n/64) m.bls.length 1=Ee m (n/64) from rfl,h2] at h3
     omega
    ·cases hf
 obtain ⟨hl,hlen⟩:=hcore
 refine ⟨n/2,by omega,by omega,by omega,fun o ho hne=>?_⟩
 apply Classical.byContradiction
 intro hq
 have hspec:=Vj hl (by omega)
 have ho1:=ho.1
 by_cases hle:2*o≤n
 ·refine hne (hspec 0 (by omega) o ?_)
  unfold MH
  rw[if_pos (by omega),Int.toNat_natCast]
  exact h.PN ho (by omega) (by omega)
 ·refine hne (hspec (o-n/2) (by omega) o ?_)
  have e:n+2*(o-n/2)=2*o:=by omega
  have hz:=h.size ho
  unfold MH
  rw[if_pos (by omega),e,Int.toNat_natCast]
  exact h.PN ho (by omega) (by omega)
end Go.Proofs.YtlaplcglpnlieaaGreat
end
